/-
  Encode.
-/
import Derived.Test.Qxb6500715aDoorDecode2
import Derived.Test.Qxb6500715aDoorOwn
import Derived.Deep.DeepMust
namespace Go.Proofs.Qxb6500715aDoor
open Go.RowKit
set_option linter.unusedSimpArgs false
set_option linter.unusedVariables false

/-- The first n of g's bytes, as cells. -/
def rowOf (g : Nat → Int) (n : Nat) : List Value := (List.range n).map fun i => .int .u8 (g i)

theorem rowOf_two (g : Nat → Int) (n : Nat) (x y : Int) (hx : g n = x) (hy : g (n + 1) = y) : rowOf g n ++ [.int .u8 x, .int .u8 y] = rowOf g (n + 2) := by
  subst hx hy; simp [rowOf, List.range_succ]
theorem rowOf_one (g : Nat → Int) (n : Nat) (x : Int) (hx : g n = x) : rowOf g n ++ [.int .u8 x] = rowOf g (n + 1) := by
  subst hx; simp [rowOf, List.range_succ]

theorem rowOf_get (g : Nat → Int) (n i : Nat) (h : i < n) : (rowOf g n)[i]? = some (.int .u8 (g i)) := by
  simp [rowOf, h]


set_option maxRecDepth 20000 in
set_option maxHeartbeats 2000000 in
theorem encode_any (A S P D r c : Int) (pb po n cap : Nat) (px py : Nat → Int) (w : World) (g : Nat → Int)
    (hnc : n ≤ cap) (hw0 : 0 < w.heap.size) (hpb : pb < w.heap.size) (hg0 : w.cell? ⟨0, 0, none⟩ = some (.int .u8 0)) (hg1 : w.cell? ⟨0, 1, none⟩ = some (.int .i64 0))
    (hc0 : ∀ i, i < n → w.cell? ⟨pb, po + i * 2, none⟩ = some (.int .i64 (px i))) (hc1 : ∀ i, i < n → w.cell? ⟨pb, po + i * 2 + 1, none⟩ = some (.int .i64 (py i)))
    (hv : layOk A S P D r c n px py) (e0 : g 0 = 70) (e1 : g 1 = 1) (e2 : g 2 = A) (e3 : g 3 = S) (e4 : g 4 = P) (e5 : g 5 = D) (e6 : g 6 = r) (e7 : g 7 = c) (e8 : g 8 = n)
    (ex : ∀ i, i < n → g (9 + 2 * i) = px i) (ey : ∀ i, i < n → g (10 + 2 * i) = py i) (es : g (9 + 2 * n) = sumF g (9 + 2 * n)) (hgr : ∀ i, 0 ≤ g i ∧ g i < 256) :
    Calls Tryd.prog 42 #[.agg #[.int .i64 A, .int .i64 S, .int .i64 P, .int .i64 D, .int .i64 r, .int .i64 c, .slice (some ⟨pb, po, none⟩) n cap]] w fun e w' => ∃ v, e = .returned (.tuple #[v, .agg #[.int .u8 0, .int .i64 (0)]]) ∧ w'.ownsRow w.heap.size 5 1 v (10 + 2 * n) (rowOf g (10 + 2 * n)) ∧ ∃ z, w' = w.ext z := by
  obtain ⟨hn, hA, hS, hP, hD, hr, hc, hpk⟩ := hv
  have HV : Hid (layOk A S P D r c n px py) := ⟨hn, hA, hS, hP, hD, hr, hc, hpk⟩
  have hcb : c ≤ 30 := by rcases (by omega : P = 2 ∨ P = 3) with rfl | rfl <;> omega
  have HX : Hid (∀ i, i < n → (g (9 + 2 * i) = px i ∧ g (10 + 2 * i) = py i) ∧ (0 ≤ px i ∧ px i ≤ 255) ∧ (0 ≤ py i ∧ py i ≤ 255)) := fun i hi => by
    have := hpk.1 i hi
    simp [onApron, inGrid] at this
    refine ⟨⟨ex i hi, ey i hi⟩, by omega, ?_⟩
    rcases (by omega : P = 2 ∨ P = 3) with rfl | rfl <;> omega
  have H9 : Hid (rowOf g 9 = [.int .u8 70, .int .u8 1, .int .u8 A, .int .u8 S, .int .u8 P, .int .u8 D, .int .u8 r, .int .u8 c, .int .u8 n]) := by
    show rowOf g 9 = _
    simp [rowOf, List.range_succ, e0, e1, e2, e3, e4, e5, e6, e7, e8]
  have HS : Hid (g (9 + 2 * n) = sumF g (9 + 2 * n)) := es
  have HR : Hid (r = 1) := hr
  have HG := hid hgr
  have hr' : 0 ≤ r ∧ r ≤ 1 := by omega
  clear hgr hpk ex ey e0 e1 e2 e3 e4 e5 e6 e7 e8 es hr
  obtain ⟨Z, hZ, hmk⟩ := make_cap (P := Tryd.prog) 59 5 (.int .u8 0) 1 1 Tryd.underlying59 (by kernel_rfl) (10 + 2 * n) (by omega) (by omega)
  have hmk' : ∀ (kl kc : IntKind) (w : World), (Instr.makeSlice 59 (.int kl 0) (.int kc (10 + 2 * (n : Int)))).run Tryd.prog w = .ok (.slice (some ⟨w.heap.size, 0, none⟩) 0 (10 + 2 * n)) (w.alloc (.cells Z 5)) := by
    intro kl kc w; have := hmk kl kc w; rw [show ((10 + 2 * n : Nat) : Int) = 10 + 2 * (n : Int) by omega] at this; exact this
  clear hmk
  go_enter Tryd.func42, Tryd.ntmps42
  go_wp2_with fail
  refine (validate_any A S P D r c pb po n cap px py _ (by omega) (by omega) (by omega) (by omega) hnc ?_ ?_ ?_ ?_ ?_ ?_).mono ?_
  · (first | omega | (simp only [World.size_ext, World.size_alloc, World.size_setCell, World.size_drew, Array.size_append]; done) | (simp only [World.size_ext, World.size_alloc, World.size_setCell, World.size_drew, Array.size_append]; omega))
  · (first | omega | (simp only [World.size_ext, World.size_alloc, World.size_setCell, World.size_drew, Array.size_append]; done) | (simp only [World.size_ext, World.size_alloc, World.size_setCell, World.size_drew, Array.size_append]; omega))
  · simp [go_sem, ↓IntWalk.iteOmega]; exact hg0
  · simp [go_sem, ↓IntWalk.iteOmega]; exact hg1
  · intro i hi; simp [go_sem, ↓IntWalk.iteOmega]; exact hc0 i hi
  · intro i hi; simp [go_sem, ↓IntWalk.iteOmega]; exact hc1 i hi
  rintro e w' ⟨k, o1, rfl, hk, z1, rfl⟩
  obtain rfl := hk.2 HV.out
  clear hk
  go_wp2_with (first | (go_at_call 41; refine (accepted_any _ _ _).mono ?_; rintro e w' ⟨rfl, z2, rfl⟩) | (go_at_call 71; refine (encodedLen_any _ _ (by omega)).mono ?_; rintro e w' ⟨rfl, z3, rfl⟩) | (at_builtin; refine hold ?_))
  unfold Hid
  refine wp_app rfl _ _ 59 rfl (w.heap.size + 1 + 1 + z1.heap.size + 1 + (z2.heap.size + z3.heap.size)) 5 (.int .u8 0) 1 1 Tryd.underlying59 (by kernel_rfl) rfl (by decide) _ 0 [] rfl ?_ _ 0 9 9 [.int .u8 70, .int .u8 1, .int .u8 A, .int .u8 S, .int .u8 P, .int .u8 D, .int .u8 r, .int .u8 c, .int .u8 n] rfl rfl ?_ (by simp [Value.oneCell']) (by decide) (by decide) ?_ ?_
  · refine ownsRow_alloc (owns_made _ _ _ ?_ ?_ ?_ hZ) _
    · (first | omega | (simp only [World.size_ext, World.size_alloc, World.size_setCell, World.size_drew, Array.size_append]; done) | (simp only [World.size_ext, World.size_alloc, World.size_setCell, World.size_drew, Array.size_append]; omega))
    · (first | omega | (simp only [World.size_ext, World.size_alloc, World.size_setCell, World.size_drew, Array.size_append]; done) | (simp only [World.size_ext, World.size_alloc, World.size_setCell, World.size_drew, Array.size_append]; omega))
    · simp only [maxLen]; omega
  · intro j u hj; simp [go_sem, ↓IntWalk.iteOmega]; simpa using hj
  · (first | omega | (simp only [World.size_ext, World.size_alloc, World.size_setCell, World.size_drew, Array.size_append]; done) | (simp only [World.size_ext, World.size_alloc, World.size_setCell, World.size_drew, Array.size_append]; omega))
  intro v1 w1 hown hb
  have hown1 : w1.ownsRow (w.heap.size + 1 + 1 + z1.heap.size + 1) 5 1 v1 (9 + 2 * 0) (rowOf g (9 + 2 * 0)) := by
    rw [show 9 + 2 * 0 = 9 from rfl, H9.out]
    exact ownsRow_low hown (by omega)
  obtain ⟨z4, rfl⟩ : ∃ z, w1 = ((((w.alloc (.cells #[.int .i64 (A), .int .i64 (S), .int .i64 (P), .int .i64 (D), .int .i64 (r), .int .i64 (c), .slice (some ⟨pb, po, none⟩) n cap] 66)).alloc (.cells #[.int .u8 0, .int .i64 0] 69)).ext z1).alloc (.cells #[.int .u8 0, .int .i64 (o1)] 69)).ext z :=
    ((((World.below_ext _ _).al _).al _).trans (hb.mono (by (first | omega | (simp only [World.size_ext, World.size_alloc, World.size_setCell, World.size_drew, Array.size_append]; done) | (simp only [World.size_ext, World.size_alloc, World.size_setCell, World.size_drew, Array.size_append]; omega))))).is_ext
  clear hown hb hmk' hZ
  go_wp2
  go_loopw [5, 49] (fun s i w' => ∃ (k : Nat) (z : World), k ≤ n ∧ i = .int .i64 (k) ∧ (((((w.alloc (.cells #[.int .i64 (A), .int .i64 (S), .int .i64 (P), .int .i64 (D), .int .i64 (r), .int .i64 (c), .slice (some ⟨pb, po, none⟩) n cap] 66)).alloc (.cells #[.int .u8 0, .int .i64 0] 69)).ext z1).alloc (.cells #[.int .u8 0, .int .i64 (o1)] 69)).ext z).ownsRow (w.heap.size + 1 + 1 + z1.heap.size + 1) 5 1 s (9 + 2 * k) (rowOf g (9 + 2 * k)) ∧ w' = ((((w.alloc (.cells #[.int .i64 (A), .int .i64 (S), .int .i64 (P), .int .i64 (D), .int .i64 (r), .int .i64 (c), .slice (some ⟨pb, po, none⟩) n cap] 66)).alloc (.cells #[.int .u8 0, .int .i64 0] 69)).ext z1).alloc (.cells #[.int .u8 0, .int .i64 (o1)] 69)).ext z) (fun _ i _ => n - (intOf i).toNat)
  case atStart => exact ⟨0, z4, by omega, rfl, hown1, rfl⟩
  case round =>
    obtain ⟨k, z5, hk, rfl, hown, rfl⟩ := hrel
    have HO := hid hown
    clear hown hown1
    by_cases hlt : k < n
    · have h0 := hc0 k hlt
      have h1 := hc1 k hlt
      obtain ⟨⟨gx, gy⟩, bx, bY⟩ := HX.out k hlt
      have GX := hid gx
      have GY := hid gy
      clear gx gy
      go_wp2_with (at_builtin; refine hold ?_)
      show wpList _ _ _ _ _ _
      refine wp_app rfl _ _ 59 rfl (w.heap.size + 1 + 1 + z1.heap.size + 1) 5 (.int .u8 0) 1 1 Tryd.underlying59 (by kernel_rfl) rfl (by decide) _ (9 + 2 * k) (rowOf g (9 + 2 * k)) rfl ?_ _ 0 2 2 [.int .u8 (px k), .int .u8 (py k)] rfl rfl ?_ (by simp [Value.oneCell']) (by omega) (by omega) ?_ ?_
      · exact ownsRow_alloc (ownsRow_alloc HO.out _) _
      · intro j u hj; simp [go_sem, ↓IntWalk.iteOmega]; simpa using hj
      · (first | omega | (simp only [World.size_ext, World.size_alloc, World.size_setCell, World.size_drew, Array.size_append]; done) | (simp only [World.size_ext, World.size_alloc, World.size_setCell, World.size_drew, Array.size_append]; omega))
      intro v3 w3 hown3 hb3
      have hown4 : w3.ownsRow (w.heap.size + 1 + 1 + z1.heap.size + 1) 5 1 v3 (9 + 2 * (k + 1)) (rowOf g (9 + 2 * (k + 1))) := by
        rw [rowOf_two g (9 + 2 * k) (px k) (py k) GX.out (by rw [← GY.out]; congr 1; omega)] at hown3
        exact hown3
      obtain ⟨z6, rfl⟩ : ∃ z, w3 = ((((w.alloc (.cells #[.int .i64 (A), .int .i64 (S), .int .i64 (P), .int .i64 (D), .int .i64 (r), .int .i64 (c), .slice (some ⟨pb, po, none⟩) n cap] 66)).alloc (.cells #[.int .u8 0, .int .i64 0] 69)).ext z1).alloc (.cells #[.int .u8 0, .int .i64 (o1)] 69)).ext z := ((((World.below_ext _ _).al _).al _).trans (hb3.mono (by (first | omega | (simp only [World.size_ext, World.size_alloc, World.size_setCell, World.size_drew, Array.size_append]; done) | (simp only [World.size_ext, World.size_alloc, World.size_setCell, World.size_drew, Array.size_append]; omega))))).is_ext
      clear hown3 hb3
      go_wp2
      go_roundw
      case rel => exact ⟨k + 1, z6, by omega, by go_num, hown4, rfl⟩
      case measure => simp [intOf]; omega
    · obtain rfl : n = k := by omega
      obtain ⟨gb, cp, rfl, hcp, hgb, hgb', hgc⟩ := ownsRow_cells HO.out (by omega)
      have GC : Hid (∀ i, i < 9 + 2 * n → (((((w.alloc (.cells #[.int .i64 (A), .int .i64 (S), .int .i64 (P), .int .i64 (D), .int .i64 (r), .int .i64 (c), .slice (some ⟨pb, po, none⟩) n cap] 66)).alloc (.cells #[.int .u8 0, .int .i64 0] 69)).ext z1).alloc (.cells #[.int .u8 0, .int .i64 (o1)] 69)).ext z5).cell? ⟨gb, i, none⟩ = some (.int .u8 (g i))) := fun i hi => hgc i _ (rowOf_get g _ i hi)
      have hgb2 : gb < (w.heap.size + 1 + 1 + z1.heap.size + 1) + z5.heap.size := by simpa using hgb'
      clear hgc hgb'
      go_wp2_with fail
      have f1 : w.heap.size + 1 < w.heap.size + 1 + 1 + z1.heap.size + 1 := by omega
      have f2 : w.heap.size + 1 < w.heap.size + 1 + 1 + z1.heap.size := by omega
      have f3 : ¬ (w.heap.size + 1 = w.heap.size + 1 + 1 + z1.heap.size) := by omega
      go_region_held3 (fun w' => w'.cell? ⟨0, 0, none⟩ = some (.int .u8 0) ∧ w'.cell? ⟨0, 1, none⟩ = some (.int .i64 0)) (simp [go_sem, ↓IntWalk.iteOmega, *]) (first
        | (go_at_call 72; refine (sum_any gb 0 (9 + 2 * n) cp g _ (by omega) ?_ ?_).mono ?_; (exact HG.out); (intro i hi; rw [Nat.zero_add]; exact GC.out i hi); rintro e w' ⟨rfl, z6, rfl⟩)
        | (refine step_app rfl _ _ 59 rfl (w.heap.size + 1 + 1 + z1.heap.size + 1) 5 (.int .u8 0) 1 1 Tryd.underlying59 (by kernel_rfl) rfl (by decide) _ (9 + 2 * n) (rowOf g (9 + 2 * n)) rfl ?h1 _ 0 1 1 [.int .u8 (sumF g (9 + 2 * n))] rfl rfl ?h2 (by simp [Value.oneCell']) (by omega) (by omega) ?h3 ?_; (case h1 => exact ownsRow_alloc (ownsRow_ext2 (z := z5.drew) HO.out) _); (case h2 => intro j u hj; simp [go_sem, ↓IntWalk.iteOmega]; simpa using hj); (case h3 => (first | omega | (simp only [World.size_ext, World.size_alloc, World.size_setCell, World.size_drew, Array.size_append]; done) | (simp only [World.size_ext, World.size_alloc, World.size_setCell, World.size_drew, Array.size_append]; omega))); intro v3 w3 hown3 hb3; have HO3 := hid hown3; have HB3 := hid hb3; clear hown3 hb3; obtain ⟨z7, rfl⟩ : ∃ z, w3 = ((((w.alloc (.cells #[.int .i64 (A), .int .i64 (S), .int .i64 (P), .int .i64 (D), .int .i64 (r), .int .i64 (c), .slice (some ⟨pb, po, none⟩) n cap] 66)).alloc (.cells #[.int .u8 0, .int .i64 0] 69)).ext z1).alloc (.cells #[.int .u8 0, .int .i64 (o1)] 69)).ext z := (((World.below_ext _ _).al _).trans (HB3.out.mono (by (first | omega | (simp only [World.size_ext, World.size_alloc, World.size_setCell, World.size_drew, Array.size_append]; done) | (simp only [World.size_ext, World.size_alloc, World.size_setCell, World.size_drew, Array.size_append]; omega))))).is_ext; clear HB3))
      go_wp2
      refine bodyPost_ret (v := .tuple #[v3, .agg #[.int .u8 0, .int .i64 (0)]]) (by simp [results, Tryd.results42, go_sem, ↓IntWalk.iteOmega]) rfl ⟨v3, rfl, ?_, ?_⟩
      · have h3 := HO3.out
        rw [rowOf_one g (9 + 2 * n) _ HS.out, show 9 + 2 * n + 1 = 10 + 2 * n by omega] at h3
        exact ownsRow_low h3 (by omega)
      · refine Below.is_ext ?_
        repeat (first | with_reducible exact Below.rf _ | with_reducible exact World.below_ext _ _ | with_reducible refine Below.ex ?_ _ | with_reducible refine Below.al ?_ _ | with_reducible refine Below.setCell ?_ (by simp) _ | with_reducible refine Below.drew ?_)
end Go.Proofs.Qxb6500715aDoor
