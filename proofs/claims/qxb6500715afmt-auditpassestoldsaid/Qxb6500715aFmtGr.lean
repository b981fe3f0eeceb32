/-
  newGroups, find, join: the walks.
-/
import Derived.Test.Qxb6500715aFmtProg
import Derived.Test.Qxb6500715aFmtUf
import Derived.Test.Qxb6500715aFmtTail
import Derived.Test.Qxb6500715aFmtKept
namespace Go.Proofs.Qxb6500715aFmt
open Go.RowKit
set_option linter.unusedSimpArgs false
set_option linter.unusedVariables false
theorem wp_nm {P : Program} {C : Code} {Q : Exit → Act → World → Prop} {a : Act} {W : World} (h : ∀ w', w' = W → Code.wp P C Q a w') : Code.wp P C Q a W := h W rfl
/-- Block b has n cells that may be written, holding f. -/
structure Blk (w : World) (b n : Nat) (f : Nat → Value) : Prop where
  lt : b < w.heap.size
  is : ∀ i, i < n → w.cell? ⟨b, i, none⟩ = some (f i)
  fz : ∀ i, i < n → w.frozen? ⟨b, i, none⟩ = false
def updG {α : Type} (f : Nat → α) (i : Nat) (v : α) : Nat → α := fun j => if j = i then v else f j
theorem updG_at {α : Type} (f : Nat → α) (i : Nat) (v : α) : updG f i v i = v := by simp [updG]
theorem updG_ne {α : Type} (f : Nat → α) {i j : Nat} (v : α) (h : j ≠ i) : updG f i v j = f j := by simp [updG, h]
section
variable {w w' : World} {b n : Nat} {f : Nat → Value}
theorem Blk.of_block (h : Blk w b n f) (hs : w.heap.size ≤ w'.heap.size) (hb : w'.heap[b]? = w.heap[b]?) : Blk w' b n f :=
  ⟨Nat.lt_of_lt_of_le h.lt hs, fun i hi => by rw [World.cell?_of_block hb]; exact h.is i hi, fun i hi => by
    have := h.fz i hi
    simp only [World.frozen?] at this ⊢
    rw [hb]; exact this⟩
theorem Blk.below (h : Blk w b n f) (hb : Below w.heap.size w w') : Blk w' b n f := h.of_block hb.size (hb.block b h.lt)
theorem Blk.kept {c : Nat} (h : Blk w b n f) (hk : KeptBut c w w') (hne : b ≠ c) : Blk w' b n f := h.of_block hk.size (hk.block b h.lt hne)
theorem Blk.set (h : Blk w b n f) (i : Nat) (v : Value) (hi : i < n) : Blk (w.setCell ⟨b, i, none⟩ v) b n (updG f i v) := by
  refine ⟨by simpa using h.lt, fun j hj => ?_, fun j hj => by rw [World.frozen?_setCell]; exact h.fz j hj⟩
  by_cases hji : j = i
  · subst hji
    rw [updG_at]
    exact World.cell?_setCell_same _ _ _ (h.is j hj)
  · rw [updG_ne _ _ hji, World.cell?_setCell_other _ _ _ _ (fun e => hji (by have := congrArg Addr.off e; simpa using this.symm))]
    exact h.is j hj
theorem Blk.congr {g : Nat → Value} (h : Blk w b n f) (he : ∀ i, i < n → f i = g i) : Blk w b n g := ⟨h.lt, fun i hi => by rw [h.is i hi, he i hi], h.fz⟩
end
def grc (pb sb n : Nat) (cnt : Int) : Nat → Value
  | 0 => .slice (some ⟨pb, 0, none⟩) n n
  | 1 => .slice (some ⟨sb, 0, none⟩) n n
  | _ => .int .i64 (cnt)
/-- A forest in memory. -/
structure GrAt (w : World) (g pb sb n : Nat) (p : Nat → Nat) (s : Nat → Int) (cnt : Int) : Prop where
  b : Blk w g 3 (grc pb sb n cnt)
  pp : Blk w pb n (fun i => .int .i64 (p i))
  ss : Blk w sb n (fun i => .int .i64 (s i))
  ne : g ≠ pb ∧ g ≠ sb ∧ pb ≠ sb
section
variable {w w' : World} {g pb sb n : Nat} {p : Nat → Nat} {s : Nat → Int} {cnt : Int}
theorem GrAt.below (h : GrAt w g pb sb n p s cnt) (hb : Below w.heap.size w w') : GrAt w' g pb sb n p s cnt := ⟨h.b.below hb, h.pp.below hb, h.ss.below hb, h.ne⟩
theorem GrAt.setP (h : GrAt w g pb sb n p s cnt) (x y : Nat) (hx : x < n) : GrAt (w.setCell ⟨pb, x, none⟩ (.int .i64 (y))) g pb sb n (setp p x y) s cnt := by
  have kb : KeptBut pb w (w.setCell ⟨pb, x, none⟩ (.int .i64 (y))) := (KeptBut.refl pb w).set (Or.inl rfl) _
  refine ⟨h.b.kept kb h.ne.1, (h.pp.set x _ hx).congr (fun i hi => ?_), h.ss.kept kb (fun e => h.ne.2.2 e.symm), h.ne⟩
  unfold updG setp
  split <;> rfl
theorem GrAt.setS (h : GrAt w g pb sb n p s cnt) (x : Nat) (y : Int) (hx : x < n) : GrAt (w.setCell ⟨sb, x, none⟩ (.int .i64 (y))) g pb sb n p (updG s x y) cnt := by
  have kb : KeptBut sb w (w.setCell ⟨sb, x, none⟩ (.int .i64 (y))) := (KeptBut.refl sb w).set (Or.inl rfl) _
  refine ⟨h.b.kept kb h.ne.2.1, h.pp.kept kb h.ne.2.2, (h.ss.set x _ hx).congr (fun i hi => ?_), h.ne⟩
  unfold updG
  split <;> rfl
theorem GrAt.setC (h : GrAt w g pb sb n p s cnt) (c : Int) : GrAt (w.setCell ⟨g, 2, none⟩ (.int .i64 (c))) g pb sb n p s c := by
  have kb : KeptBut g w (w.setCell ⟨g, 2, none⟩ (.int .i64 (c))) := (KeptBut.refl g w).set (Or.inl rfl) _
  refine ⟨(h.b.set 2 _ (by omega)).congr (fun i hi => ?_), h.pp.kept kb (fun e => h.ne.1 e.symm), h.ss.kept kb (fun e => h.ne.2.1 e.symm), h.ne⟩
  rcases (by omega : i = 0 ∨ i = 1 ∨ i = 2) with rfl | rfl | rfl <;> rfl
end
set_option maxHeartbeats 4000000 in
theorem find_any (g pb sb n : Nat) (p rt r : Nat → Nat) (R : Nat) (s : Nat → Int) (cnt : Int) (x : Nat) (w : World) (h : GrAt w g pb sb n p s cnt) (hu : UF n p rt r R) (hx : x < n) (hn : n ≤ 1000) :
    Calls Tryf.prog 55 #[.pointer (some ⟨g, 0, none⟩), .int .i64 (x)] w fun e w' => e = .returned (.int .i64 (rt x)) ∧ ∃ p', GrAt w' g pb sb n p' s cnt ∧ UF n p' rt r R ∧ grp p' n = grp p n ∧ KeptBut pb w w' := by
  have H := hid h
  have HU := hid hu
  clear h hu
  go_enter Tryf.func55, Tryf.ntmps55
  go_wp2
  go_loopw [1] (fun v wr => ∃ (y : Nat) (q : Nat → Nat), v = .int .i64 (y) ∧ y < n ∧ rt y = rt x ∧ UF n q rt r R ∧ grp q n = grp p n ∧ GrAt wr g pb sb n q s cnt ∧ KeptBut pb w wr) (fun v _ => R - r (intOf v).toNat)
  case atStart => exact ⟨x, p, rfl, hx, rfl, HU.out, rfl, H.out, KeptBut.refl _ _⟩
  case round =>
    obtain ⟨y, q, rfl, hy, hry, hq, hg, hG, hK⟩ := hrel
    have HQ := hid hq
    have HG := hid hG
    have HK := hid hK
    have HGR := hid hg
    have HRY := hid hry
    have g0 : wr.cell? ⟨g, 0, none⟩ = some (.slice (some ⟨pb, 0, none⟩) n n) := hG.b.is 0 (by omega)
    have gl := hG.b.lt
    have pl := hG.pp.lt
    have py : wr.cell? ⟨pb, y, none⟩ = some (.int .i64 (q y)) := hG.pp.is y hy
    have hqy := hq.lt y hy
    have pz : wr.cell? ⟨pb, q y, none⟩ = some (.int .i64 (q (q y))) := hG.pp.is (q y) hqy
    have hqz := hq.lt _ hqy
    have fy := hG.pp.fz y hy
    have ng1 : ¬ g = pb := hG.ne.1
    have ng2 : ¬ pb = g := fun e => hG.ne.1 e.symm
    have dy : decide (y < n) = true := by simp; omega
    have dq : decide (q y < n) = true := by simp; omega
    clear hq hG hK hg hry H HU
    by_cases e : q y = y
    · have dn : ((q y : Int) != (y : Int)) = false := by simp; omega
      have HE := hid e
      clear e
      go_wp2
      go_ret
      refine ⟨?_, q, HG.out, HQ.out, HGR.out, HK.out⟩
      have h1 := HQ.out.rx y hy HE.out
      rw [← HRY.out, h1]
      try rfl
    · have dn : ((q y : Int) != (y : Int)) = true := by simp; omega
      have HE := hid e
      have hm := HQ.out.half hy e
      have hup := hm.up y hy (by rw [setp_at]; intro e2; have := hm.rx y hy (by rw [setp_at]; exact e2); have h4 := HQ.out.rr y hy; rw [this] at h4; exact e h4)
      rw [setp_at] at hup
      have hbd := HQ.out.bd _ hqz
      obtain ⟨u, hu⟩ : ∃ u, q y = u := ⟨_, rfl⟩
      obtain ⟨v, hv⟩ : ∃ v, q (q y) = v := ⟨_, rfl⟩
      have HU := hid hu
      have HV := hid hv
      rw [hv] at pz hqz hup hbd
      rw [hu] at py pz hqy dq dn
      clear hm e hu hv
      go_wp2
      first | with_reducible refine wp_region_tail_ext2 18 (by kernel_rfl) (by kernel_rfl) ?_ | refine wp_region_tail_ext 18 (by kernel_rfl) (by kernel_rfl) ?_
      simp only [List.take_succ_cons, List.take_zero, List.drop_succ_cons, List.drop_zero]
      repeat (go_big_quiet_step (fail))
      refine wpQuiet_nil ?_
      rintro _ ⟨z, rfl⟩
      go_wp2
      go_roundw
      case rel =>
        have hG2 := ((HG.out.setP y v hy).below (World.below_ext _ z))
        refine ⟨v, setp q y v, rfl, hqz, ?_, ?_, ?_, hG2, ?_⟩
        · rw [← HV.out, HQ.out.rp _ (by rw [HU.out]; exact hqy), HQ.out.rp _ hy]
          exact HRY.out
        · rw [← HV.out]
          exact HQ.out.half hy HE.out
        · rw [← HV.out, HQ.out.half_grp hy HE.out]
          exact HGR.out
        · exact (HK.out.set (a := ⟨pb, y, none⟩) (Or.inl rfl) _).ex z
      case measure =>
        simp [intOf]
        omega
end Go.Proofs.Qxb6500715aFmt
