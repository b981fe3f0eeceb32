/-
  newGroups and join: the walks.
-/
import Derived.Test.Qxb6500715aFmtGr
import Derived.Test.Qxb6500715aFmtTr
namespace Go.Proofs.Qxb6500715aFmt
open Go.RowKit
set_option linter.unusedSimpArgs false
set_option linter.unusedVariables false
/-- Only blocks of A may have been written. -/
structure Kp (A : Nat → Prop) (w w' : World) : Prop where
  os : w'.os = w.os
  tape : w'.tape = w.tape
  output : w'.output = w.output
  size : w.heap.size ≤ w'.heap.size
  block : ∀ k, k < w.heap.size → ¬ A k → w'.heap[k]? = w.heap[k]?
section
variable {A B : Nat → Prop} {w w1 w2 : World}
theorem Kp.refl (A : Nat → Prop) (w : World) : Kp A w w := ⟨rfl, rfl, rfl, Nat.le_refl _, fun _ _ _ => rfl⟩
theorem Kp.trans (h : Kp A w w1) (k : Kp A w1 w2) : Kp A w w2 :=
  ⟨k.os.trans h.os, k.tape.trans h.tape, k.output.trans h.output, Nat.le_trans h.size k.size, fun i hi hb => (k.block i (Nat.lt_of_lt_of_le hi h.size) hb).trans (h.block i hi hb)⟩
theorem Kp.mono (h : Kp A w w1) (hAB : ∀ x, A x → B x) : Kp B w w1 := ⟨h.os, h.tape, h.output, h.size, fun k hk hb => h.block k hk (fun ha => hb (hAB _ ha))⟩
theorem Kp.of_below (h : Below w.heap.size w w1) : Kp A w w1 := ⟨h.os, h.tape, h.output, h.size, fun k hk _ => h.block k hk⟩
theorem Kp.of_but {b : Nat} (h : KeptBut b w w1) (hb : A b) : Kp A w w1 := ⟨h.os, h.tape, h.output, h.size, fun k hk hn => h.block k hk (fun e => hn (e ▸ hb))⟩
theorem Kp.al (h : Kp A w w1) (o : Obj) : Kp A w (w1.alloc o) := h.trans (Kp.of_below ((Below.rf w1).al o))
theorem Kp.ex (h : Kp A w w1) (z : World) : Kp A w (w1.ext z) := h.trans (Kp.of_below (World.below_ext w1 z))
theorem Kp.drew (h : Kp A w w1) : Kp A w w1.drew := h.trans (Kp.of_below (Below.rf w1).drew)
theorem Kp.set (h : Kp A w w1) {b i : Nat} (hb : A b) (v : Value) : Kp A w (w1.setCell ⟨b, i, none⟩ v) :=
  h.trans (Kp.of_but ((KeptBut.refl b w1).set (Or.inl rfl) v) hb)
theorem Kp.below {B : Nat} (h : Kp A w w1) (hB : B ≤ w.heap.size) (hn : ∀ k, k < B → ¬ A k) : Below B w w1 := ⟨h.os, h.tape, h.output, h.size, fun k hk => h.block k (by omega) (hn k hk)⟩
theorem Blk.kp {b n : Nat} {f : Nat → Value} (h : Blk w b n f) (hk : Kp A w w1) (hne : ¬ A b) : Blk w1 b n f := h.of_block hk.size (hk.block b h.lt hne)
theorem GrAt.kp {g pb sb n : Nat} {p : Nat → Nat} {s : Nat → Int} {cnt : Int} (h : GrAt w g pb sb n p s cnt) (hk : Kp A w w1) (h1 : ¬ A g) (h2 : ¬ A pb) (h3 : ¬ A sb) : GrAt w1 g pb sb n p s cnt := ⟨h.b.kp hk h1, h.pp.kp hk h2, h.ss.kp hk h3, h.ne⟩
end
theorem made1 (z : Value) (n i : Nat) (h : i < n) : (madeCells #[z] n)[i]? = some z := by
  simp [madeCells, h, Nat.mod_one]
theorem region_via {P : Program} {id : Nat} {l : Array Oper} {b : Bool} {Q : Exit → Act → World → Prop} {a : Act} {w : World} (R : Act → Act → World → Prop) (h : (Code.region id l b).wp P (fun x a' w' => x = .normal ∧ R a a' w') a w)
    (k : ∀ a' w', R a a' w' → Q .normal a' w') : (Code.region id l b).wp P Q a w :=
  Code.wp_mono (fun e a' w' ⟨h1, h2⟩ => by subst h1; exact k a' w' h2) h
/-- What join makes of the roots. -/
def Joined (rt rt' : Nat → Nat) (a b : Nat) : Prop := (rt a = rt b ∧ rt' = rt) ∨ (rt a ≠ rt b ∧ (rt' = jrt rt (rt a) (rt b) ∨ rt' = jrt rt (rt b) (rt a)))
def JnPost (g pb sb n : Nat) (rt : Nat → Nat) (a b : Nat) (w : World) : Ending → World → Prop := fun e w' =>
  e = .returned (.tuple #[]) ∧ ∃ p' rt' r' R' s', GrAt w' g pb sb n p' s' (grp p' n) ∧ UF n p' rt' r' R' ∧ Joined rt rt' a b ∧ Kp (fun x => x = g ∨ x = pb ∨ x = sb) w w'
theorem join_end (g pb sb n : Nat) (p rt r : Nat → Nat) (R : Nat) (s : Nat → Int) (a b x y : Nat) (w w2 z : World) (sv : Int) (hG : GrAt w2 g pb sb n p s (grp p n)) (hU : UF n p rt r R) (hK : KeptBut pb w w2) (hx : x < n) (hy : y < n) (px : p x = x) (py : p y = y) (hxy : ¬ x = y)
    (hc : (rt a = x ∧ rt b = y) ∨ (rt a = y ∧ rt b = x)) (hn : n ≤ 1000) :
    JnPost g pb sb n rt a b w (.returned (.tuple #[])) ((((w2.setCell ⟨pb, y, none⟩ (.int .i64 (x))).setCell ⟨sb, x, none⟩ (.int .i64 sv)).setCell ⟨g, 2, none⟩ (.int .i64 (wrap64 ((grp p n : Int) - 1)))).ext z) := by
  have hj := join_grp (a := x) hy py hxy
  have hle : grp p n ≤ n := cntB_le _ _
  have hwr : wrap64 ((grp p n : Int) - 1) = (grp (setp p y x) n : Nat) := by
    unfold wrap64; omega
  refine ⟨rfl, setp p y x, jrt rt x y, _, R + 1, updG s x sv, ?_, hU.join hx hy px py hxy, ?_, ?_⟩
  · rw [hwr]
    exact (((hG.setP y x hy).setS x sv hx).setC _).below (World.below_ext _ z)
  · rcases hc with ⟨h1, h2⟩ | ⟨h1, h2⟩
    · exact Or.inr ⟨by rw [h1, h2]; exact hxy, Or.inl (by rw [h1, h2])⟩
    · exact Or.inr ⟨by rw [h1, h2]; exact fun e => hxy e.symm, Or.inr (by rw [h1, h2])⟩
  · exact ((((Kp.of_but hK (Or.inr (Or.inl rfl))).set (Or.inr (Or.inl rfl)) _).set (Or.inr (Or.inr rfl)) _).set (Or.inl rfl) _).ex z
set_option maxHeartbeats 4000000 in
theorem join_any (g pb sb n : Nat) (p rt r : Nat → Nat) (R : Nat) (s : Nat → Int) (a b : Nat) (w : World) (h : GrAt w g pb sb n p s (grp p n)) (hu : UF n p rt r R) (ha : a < n) (hb : b < n) (hn : n ≤ 1000) :
    Calls Tryf.prog 31 #[.pointer (some ⟨g, 0, none⟩), .int .i64 (a), .int .i64 (b)] w (JnPost g pb sb n rt a b w) := by
  have la := hu.rl a ha
  have lb := hu.rl b hb
  have HRA : Hid (∀ p', UF n p' rt r R → p' (rt a) = rt a) := fun p' h => h.rr a ha
  have HRB : Hid (∀ p', UF n p' rt r R → p' (rt b) = rt b) := fun p' h => h.rr b hb
  have CA := hid (find_any g pb sb n p rt r R s _ a w h hu ha hn)
  have CB : Hid (∀ (p1 : Nat → Nat) (w1 : World), GrAt w1 g pb sb n p1 s (grp p1 n) → UF n p1 rt r R → Calls Tryf.prog 55 #[.pointer (some ⟨g, 0, none⟩), .int .i64 (b)] w1 fun e w' => e = .returned (.int .i64 (rt b)) ∧ ∃ p', GrAt w' g pb sb n p' s (grp p1 n) ∧ UF n p' rt r R ∧ grp p' n = grp p1 n ∧ KeptBut pb w1 w') := fun p1 w1 h hu => find_any g pb sb n p1 rt r R s _ b w1 h hu hb hn
  obtain ⟨α, hα⟩ : ∃ α, rt a = α := ⟨_, rfl⟩
  obtain ⟨β, hβ⟩ : ∃ β, rt b = β := ⟨_, rfl⟩
  rw [hα] at la HRA CA
  rw [hβ] at lb HRB CB
  have Hα := hid hα
  have Hβ := hid hβ
  clear hα hβ h hu
  have HE := hid (Classical.em (α = β))
  rcases HE.out with e | e
  · have de : ((α : Int) == (β : Int)) = true := by simp; omega
    have HE := hid e
    clear e
    go_enter Tryf.func31, Tryf.ntmps31
    go_wp2_with (go_at_call 55; first | (refine CA.out.mono ?_; rintro e w1 ⟨rfl, p1, hG1, hU1, hg1, hk1⟩; rw [← hg1] at hG1; have HG1 := hid hG1; have HU1 := hid hU1; have HK1 := hid hk1; clear hG1 hU1 hg1 hk1 CA) | (refine (CB.out p1 _ HG1.out HU1.out).mono ?_; rintro e w2 ⟨rfl, p2, hG2, hU2, hg2, hk2⟩; rw [← hg2] at hG2; have HG2 := hid hG2; have HU2 := hid hU2; have HK2 := hid (HK1.out.trans hk2); clear hG2 hU2 hg2 hk2 HG1 HU1 HK1))
    refine bodyPost_ret (v := .tuple #[]) (by simp [results, Tryf.results31, go_sem, ↓IntWalk.iteOmega]) rfl ?_
    exact ⟨rfl, p2, rt, r, R, s, HG2.out, HU2.out, Or.inl ⟨by rw [Hα.out, Hβ.out, HE.out], rfl⟩, Kp.of_but HK2.out (Or.inr (Or.inl rfl))⟩
  · have de : ((α : Int) == (β : Int)) = false := by simp; omega
    have HE := hid e
    clear e
    go_enter Tryf.func31, Tryf.ntmps31
    go_wp2_with (go_at_call 55; first | (refine CA.out.mono ?_; rintro e w1 ⟨rfl, p1, hG1, hU1, hg1, hk1⟩; rw [← hg1] at hG1; have HG1 := hid hG1; have HU1 := hid hU1; have HK1 := hid hk1; clear hG1 hU1 hg1 hk1 CA) | (refine (CB.out p1 _ HG1.out HU1.out).mono ?_; rintro e w2 ⟨rfl, p2, hG2, hU2, hg2, hk2⟩; rw [← hg2] at hG2; have HG2 := hid hG2; have HU2 := hid hU2; have HK2 := hid (HK1.out.trans hk2); clear hG2 hU2 hg2 hk2 HG1 HU1 HK1))
    have g0 : w2.cell? ⟨g, 0, none⟩ = some (.slice (some ⟨pb, 0, none⟩) n n) := HG2.out.b.is 0 (by omega)
    have g1 : w2.cell? ⟨g, 1, none⟩ = some (.slice (some ⟨sb, 0, none⟩) n n) := HG2.out.b.is 1 (by omega)
    have g2 : w2.cell? ⟨g, 2, none⟩ = some (.int .i64 (grp p2 n)) := HG2.out.b.is 2 (by omega)
    have gl := HG2.out.b.lt
    have pl := HG2.out.pp.lt
    have sl := HG2.out.ss.lt
    have sa : w2.cell? ⟨sb, α, none⟩ = some (.int .i64 (s α)) := HG2.out.ss.is α la
    have sv : w2.cell? ⟨sb, β, none⟩ = some (.int .i64 (s β)) := HG2.out.ss.is β lb
    have qa : w2.cell? ⟨pb, α, none⟩ = some (.int .i64 (p2 α)) := HG2.out.pp.is α la
    have qb : w2.cell? ⟨pb, β, none⟩ = some (.int .i64 (p2 β)) := HG2.out.pp.is β lb
    have fa := HG2.out.ss.fz α la
    have fb := HG2.out.ss.fz β lb
    have ga := HG2.out.pp.fz α la
    have gb := HG2.out.pp.fz β lb
    have gz := HG2.out.b.fz 2 (by omega)
    obtain ⟨n1, n2, n3⟩ := HG2.out.ne
    have m1 : ¬ pb = g := fun e => n1 e.symm
    have m2 : ¬ sb = g := fun e => n2 e.symm
    have m3 : ¬ sb = pb := fun e => n3 e.symm
    have n1 : ¬ g = pb := n1
    have n2 : ¬ g = sb := n2
    have n3 : ¬ pb = sb := n3
    have da : decide (α < n) = true := by simp; omega
    have db : decide (β < n) = true := by simp; omega
    have k1 : ¬ α = β := HE.out
    have k2 : ¬ β = α := fun e => HE.out e.symm
    obtain ⟨y1, hy1⟩ : ∃ y, s α = y := ⟨_, rfl⟩
    obtain ⟨y2, hy2⟩ : ∃ y, s β = y := ⟨_, rfl⟩
    rw [hy1] at sa
    rw [hy2] at sv
    have HY1 := hid hy1
    have HY2 := hid hy2
    clear hy1 hy2 CB
    first | with_reducible refine wp_region_ext2 (by kernel_rfl) (by kernel_rfl) ?_ | refine wp_region_ext (by kernel_rfl) (by kernel_rfl) ?_
    repeat (go_big_quiet_step (fail))
    refine wpQuiet_nil ?_
    rintro _ ⟨z, rfl⟩
    go_wp2
    · first | with_reducible refine wp_region_tail_ext2 16 (by kernel_rfl) (by kernel_rfl) ?_ | refine wp_region_tail_ext 16 (by kernel_rfl) (by kernel_rfl) ?_
      simp only [List.take_succ_cons, List.take_zero, List.drop_succ_cons, List.drop_zero]
      repeat (go_big_quiet_step (fail))
      refine wpQuiet_nil ?_
      rintro _ ⟨z, rfl⟩
      go_wp2
      refine bodyPost_ret (v := .tuple #[]) (by simp [results, Tryf.results31, go_sem, ↓IntWalk.iteOmega]) rfl ?_
      exact join_end g pb sb n p2 rt r R s a b β α w w2 z _ HG2.out HU2.out HK2.out lb la (HRB.out _ HU2.out) (HRA.out _ HU2.out) (fun e => HE.out e.symm) (Or.inr ⟨Hα.out, Hβ.out⟩) hn
    · first | with_reducible refine wp_region_tail_ext2 16 (by kernel_rfl) (by kernel_rfl) ?_ | refine wp_region_tail_ext 16 (by kernel_rfl) (by kernel_rfl) ?_
      simp only [List.take_succ_cons, List.take_zero, List.drop_succ_cons, List.drop_zero]
      repeat (go_big_quiet_step (fail))
      refine wpQuiet_nil ?_
      rintro _ ⟨z, rfl⟩
      go_wp2
      refine bodyPost_ret (v := .tuple #[]) (by simp [results, Tryf.results31, go_sem, ↓IntWalk.iteOmega]) rfl ?_
      exact join_end g pb sb n p2 rt r R s a b α β w w2 z _ HG2.out HU2.out HK2.out la lb (HRA.out _ HU2.out) (HRB.out _ HU2.out) HE.out (Or.inl ⟨Hα.out, Hβ.out⟩) hn
end Go.Proofs.Qxb6500715aFmt
