/-
  The painted grid by index: what the numbering asks.
-/
import Derived.Test.Qxb6500715aFmtTabs
import Derived.Test.Qxb6500715aFmtLnk1
namespace Go.Proofs.Qxb6500715aFmt
open Go.RowKit
set_option linter.unusedSimpArgs false
set_option linter.unusedVariables false

def kdOf (A S P D n : Nat) (px py : Nat → Nat) (W i : Nat) : Int := kind3 A S P D n px py (i / W) (i % W)

section
variable {A S P D c n W : Nat} {px py : Nat → Nat}
theorem kd_at (hW : 0 < W) {r q : Nat} (hq : q < W) : kdOf A S P D n px py W (r * W + q) = kind3 A S P D n px py r q := by
  unfold kdOf
  rw [show (r * W + q) / W = r by rw [Nat.mul_comm, Nat.mul_add_div hW, Nat.div_eq_of_lt hq]; rfl, show (r * W + q) % W = q by rw [Nat.mul_comm, Nat.mul_add_mod, Nat.mod_eq_of_lt hq]]

theorem not_bay (hL : LayN A S P D c n px py) {r q : Nat} (hr : 1 ≤ r ∧ r < S + 3) : isBay n px py r q = false := by
  cases h : isBay n px py r q
  · rfl
  · obtain ⟨i, hi, h1, h2⟩ := (isBay_iff n px py r q).1 h
    have := (hL.hx i hi).1
    omega

theorem kd_front (hL : LayN A S P D c n px py) (hW : 0 < W) {q : Nat} (hq : q < W) : kdOf A S P D n px py W (W + q) = 5 := by
  have := kd_at (A := A) (S := S) (P := P) (D := D) (n := n) (px := px) (py := py) hW (r := 1) hq
  rw [Nat.one_mul] at this
  have hS := hL.hS
  rw [this]
  unfold kind3
  rw [not_bay hL ⟨Nat.le_refl _, by omega⟩, if_neg (by simp), kind2, if_neg (by omega), kind1, if_pos rfl]

theorem kd_bay (hL : LayN A S P D c n px py) (hW : W = (A - 1) * P + 3) {i : Nat} (hi : i < n) : kdOf A S P D n px py W (px i * W + py i) = 7 := by
  have hq := (hL.hx i hi).2
  rw [kd_at (by omega) (by omega)]
  unfold kind3
  rw [if_pos ((isBay_iff n px py _ _).2 ⟨i, hi, rfl, rfl⟩)]

theorem idx_lt (hL : LayN A S P D c n px py) (hW : W = (A - 1) * P + 3) {i : Nat} (hi : i < n) : px i * W + py i < W * (S + 4) := by
  have hq := (hL.hx i hi).2
  have hx := (hL.hx i hi).1
  have h1 : (px i + 1) * W ≤ (S + 4) * W := Nat.mul_le_mul_right _ (by omega)
  rw [Nat.add_mul, Nat.one_mul, Nat.mul_comm (S + 4)] at h1
  omega
end

/-- All blocks of a floor. -/
structure OnB (F : FP) (sb cb tb db : Nat) (T : Nat → Prop) : Prop where
  fb : T F.fb
  kb : T F.kb
  ib : T F.ib
  qb : T F.qb
  ab : T F.ab
  ob : T F.ob
  pb : T F.pb
  sb : T sb
  cb : T cb
  tb : T tb
  db : T db

/-- A floor, whole. -/
structure Flo (w : World) (F : FP) (sb cb tb db NN : Nat) (dist : Nat → Nat → Int) (dia : Int) (D : Array Value) : Prop where
  fl : FlN w F
  lk : Lnk w F sb cb
  k19 : w.cell? ⟨F.fb, 19, none⟩ = some (.pointer (some ⟨tb, 0, none⟩))
  tab : TabAt w F tb db F.N NN dist dia D
  hN : 1 ≤ F.N ∧ F.N ≤ 384

section
variable {w w' : World} {F : FP} {sb cb tb db NN : Nat} {dist : Nat → Nat → Int} {dia : Int} {D : Array Value} {T : Nat → Prop}
theorem FlN.on (h : FlN w F) (ho : OnB F sb cb tb db T) (hs : w.heap.size ≤ w'.heap.size) (hb : ∀ k, T k → w'.heap[k]? = w.heap[k]?) : FlN w' F := by
  have hn := h.num
  obtain ⟨l1, l2, l3, l4⟩ := hn.lt
  have c : ∀ k o, T k → w'.cell? ⟨k, o, none⟩ = w.cell? ⟨k, o, none⟩ := fun k o hk => World.cell?_of_block (hb k hk)
  exact { hdr := h.hdr.of hs (fun j _ => c _ _ ho.fb) (fun j => World.frozen?_of_block (hb _ ho.fb)), lay := h.lay, hL := h.hL, hLb := h.hLb, hWb := h.hWb, k9 := (c _ _ ho.fb).trans h.k9, hkb := ⟨by have := h.hkb.1; omega, h.hkb.2⟩,
          kds := fun i hi => (c _ _ ho.kb).trans (h.kds i hi), kind := h.kind, ne := h.ne, hpb := ⟨by have := h.hpb.1; omega, h.hpb.2⟩,
          pc0 := fun i hi => (c _ _ ho.pb).trans (h.pc0 i hi), pc1 := fun i hi => (c _ _ ho.pb).trans (h.pc1 i hi),
          num := { hN := hn.hN, i10 := (c _ _ ho.fb).trans hn.i10, i11 := (c _ _ ho.fb).trans hn.i11, i12 := (c _ _ ho.fb).trans hn.i12, i13 := (c _ _ ho.fb).trans hn.i13, i14 := (c _ _ ho.fb).trans hn.i14,
                   lt := ⟨by omega, by omega, by omega, by omega⟩, qc := hn.qc, ids := fun i hi => (c _ _ ho.ib).trans (hn.ids i hi), pos0 := fun j hj => (c _ _ ho.qb).trans (hn.pos0 j hj), pos1 := fun j hj => (c _ _ ho.qb).trans (hn.pos1 j hj),
                   park := fun r hr => (c _ _ ho.ab).trans (hn.park r hr), own := fun j hj => (c _ _ ho.ob).trans (hn.own j hj) } }

theorem Flo.on (h : Flo w F sb cb tb db NN dist dia D) (ho : OnB F sb cb tb db T) (hs : w.heap.size ≤ w'.heap.size) (hb : ∀ k, T k → w'.heap[k]? = w.heap[k]?) : Flo w' F sb cb tb db NN dist dia D := by
  have c : ∀ k o, T k → w'.cell? ⟨k, o, none⟩ = w.cell? ⟨k, o, none⟩ := fun k o hk => World.cell?_of_block (hb k hk)
  exact ⟨h.fl.on ho hs hb, ⟨(c _ _ ho.fb).trans h.lk.k15, (c _ _ ho.fb).trans h.lk.k16, Nat.lt_of_lt_of_le h.lk.hfb hs, ⟨Nat.lt_of_lt_of_le h.lk.lt.1 hs, Nat.lt_of_lt_of_le h.lk.lt.2 hs⟩, fun j hj => (c _ _ ho.sb).trans (h.lk.sv j hj), fun j x hx => (c _ _ ho.cb).trans (h.lk.cv j x hx)⟩,
    (c _ _ ho.fb).trans h.k19, ⟨(hb _ ho.tb).trans h.tab.ht, (hb _ ho.db).trans h.tab.hD, h.tab.ds, h.tab.dv, h.tab.bfs, h.tab.d0⟩, h.hN⟩

theorem Flo.below (h : Flo w F sb cb tb db NN dist dia D) (hb : Below w.heap.size w w') : Flo w' F sb cb tb db NN dist dia D :=
  ⟨h.fl.below hb, h.lk.below hb, (World.cell?_of_block (hb.block _ h.lk.hfb)).trans h.k19,
    ⟨(hb.block _ (Array.getElem?_eq_some_iff.1 h.tab.ht).1).trans h.tab.ht, (hb.block _ (Array.getElem?_eq_some_iff.1 h.tab.hD).1).trans h.tab.hD, h.tab.ds, h.tab.dv, h.tab.bfs, h.tab.d0⟩, h.hN⟩

/-- The last field is written. -/
theorem flo_set (h : FlN w F) (hl : Lnk w F sb cb) (ht : TabAt w F tb db F.N NN dist dia D) (hN : 1 ≤ F.N ∧ F.N ≤ 384) (hsb : sb ≠ F.fb ∧ cb ≠ F.fb ∧ tb ≠ F.fb ∧ db ≠ F.fb) {v19 : Value} (h19 : w.cell? ⟨F.fb, 19, none⟩ = some v19) :
    Flo (w.setCell ⟨F.fb, 19, none⟩ (.pointer (some ⟨tb, 0, none⟩))) F sb cb tb db NN dist dia D := by
  have hb : ∀ k, k ≠ F.fb → (w.setCell ⟨F.fb, 19, none⟩ (.pointer (some ⟨tb, 0, none⟩))).heap[k]? = w.heap[k]? := fun k hk => Below.heap_setCell _ _ _ _ (by simpa using hk)
  have c : ∀ k o, k ≠ F.fb → (w.setCell ⟨F.fb, 19, none⟩ (.pointer (some ⟨tb, 0, none⟩))).cell? ⟨k, o, none⟩ = w.cell? ⟨k, o, none⟩ := fun k o hk => World.cell?_of_block (hb k hk)
  exact ⟨h.of ((KeptBut.refl F.fb w).set (Or.inl rfl) _) (fun j hj => fld_ne _ _ _ _ _ (by omega)) (fun j => by simp),
    ⟨(fld_ne _ _ _ _ _ (by omega)).trans hl.k15, (fld_ne _ _ _ _ _ (by omega)).trans hl.k16, by simpa using hl.hfb, by simpa using hl.lt, fun j hj => (c _ _ hsb.1).trans (hl.sv j hj), fun j x hx => (c _ _ hsb.2.1).trans (hl.cv j x hx)⟩,
    World.cell?_setCell_same _ _ _ h19, ⟨(hb _ hsb.2.2.1).trans ht.ht, (hb _ hsb.2.2.2).trans ht.hD, ht.ds, ht.dv, ht.bfs, ht.d0⟩, hN⟩
end
/-- The edges in memory. -/
structure Edg (w : World) (F : FP) (eb : Nat) (ao : Option Addr) (xb cp : Nat) : Prop where
  k17 : w.cell? ⟨F.fb, 17, none⟩ = some (.slice (some ⟨eb, 0, none⟩) (F.st F.N) (F.st F.N))
  k18 : w.cell? ⟨F.fb, 18, none⟩ = some (.slice ao (F.ends F.N).length cp)
  lf : F.fb < w.heap.size
  le : eb < w.heap.size
  lx : xb < w.heap.size
  ev : ∀ a t b, a < F.N → (F.adj a)[t]? = some b → w.cell? ⟨eb, F.st a + t, none⟩ = some (.int .i64 (edn (F.ends F.N) a b))
  xo : 0 < (F.ends F.N).length → ao = some ⟨xb, 0, none⟩
  x0 : ∀ i p, (F.ends F.N)[i]? = some p → w.cell? ⟨xb, 2 * i, none⟩ = some (.int .i64 p.1)
  x1 : ∀ i p, (F.ends F.N)[i]? = some p → w.cell? ⟨xb, 2 * i + 1, none⟩ = some (.int .i64 p.2)
theorem Edg.of {w w' : World} {F : FP} {eb xb cp : Nat} {ao : Option Addr} (h : Edg w F eb ao xb cp) (hs : w.heap.size ≤ w'.heap.size) (h17 : w'.cell? ⟨F.fb, 17, none⟩ = w.cell? ⟨F.fb, 17, none⟩) (h18 : w'.cell? ⟨F.fb, 18, none⟩ = w.cell? ⟨F.fb, 18, none⟩)
    (he : w'.heap[eb]? = w.heap[eb]?) (hx : w'.heap[xb]? = w.heap[xb]?) : Edg w' F eb ao xb cp :=
  ⟨h17.trans h.k17, h18.trans h.k18, Nat.lt_of_lt_of_le h.lf hs, Nat.lt_of_lt_of_le h.le hs, Nat.lt_of_lt_of_le h.lx hs, fun a t b h1 h2 => (World.cell?_of_block he).trans (h.ev a t b h1 h2), h.xo, fun i p hp => (World.cell?_of_block hx).trans (h.x0 i p hp), fun i p hp => (World.cell?_of_block hx).trans (h.x1 i p hp)⟩
theorem Edg.below {w w' : World} {F : FP} {eb xb cp : Nat} {ao : Option Addr} (h : Edg w F eb ao xb cp) (hb : Below w.heap.size w w') : Edg w' F eb ao xb cp :=
  h.of hb.size (World.cell?_of_block (hb.block _ h.lf)) (World.cell?_of_block (hb.block _ h.lf)) (hb.block _ h.le) (hb.block _ h.lx)
theorem Edg.ex {w : World} {F : FP} {eb xb cp : Nat} {ao : Option Addr} (h : Edg w F eb ao xb cp) (z : World) : Edg (w.ext z) F eb ao xb cp := h.below (World.below_ext w z)
theorem flat2_get : ∀ (l : List (Nat × Nat)) (i : Nat) (p : Nat × Nat), l[i]? = some p → (l.flatMap (fun p => [Value.int .i64 p.1, Value.int .i64 p.2]))[2 * i]? = some (.int .i64 p.1) ∧ (l.flatMap (fun p => [Value.int .i64 p.1, Value.int .i64 p.2]))[2 * i + 1]? = some (.int .i64 p.2)
  | [], _, _, h => by simp at h
  | q :: l, 0, p, h => by
    simp only [List.getElem?_cons_zero, Option.some.injEq] at h
    subst h
    simp [List.flatMap_cons]
  | q :: l, i + 1, p, h => by
    simp only [List.getElem?_cons_succ] at h
    have := flat2_get l i p h
    rw [List.flatMap_cons]
    simp only [List.cons_append, List.nil_append, show 2 * (i + 1) = 2 * i + 1 + 1 by omega, List.getElem?_cons_succ]
    exact this
theorem Lk2.edg {w wr : World} {F : FP} {eb : Nat} {Y C E : Array Value} {v : Value} {m : Nat} {xs : List Value} (h : Lk2 w wr F eb Y C E v m xs) (hI : EdI F F.N 0 E m xs) : ∃ ao xb cp, Edg wr F eb ao xb cp ∧ eb ≤ xb := by
  have hm := hI.hm
  have hx := hI.hx
  have hev := hI.ev
  rw [endsTo_zero] at hm hx hev
  have k18 := h.k18
  have hE : ∀ a t b, a < F.N → (F.adj a)[t]? = some b → wr.cell? ⟨eb, F.st a + t, none⟩ = some (.int .i64 (edn (F.ends F.N) a b)) := fun a t b h1 h2 => by
    rw [cell_of_row wr eb _ E 68 (0, 0) h.hE]
    exact (hev a t b (Or.inl h1) h2).2
  by_cases h0 : 0 < m
  · obtain ⟨g, cap, rfl, h1, h2, h3, h4⟩ := ownsRow_cells2 h.own h0
    rw [hm] at k18
    exact ⟨_, g, cap, ⟨h.k17, k18, h.fl.hdr.hfb, h.lt, h3, hE, fun _ => rfl, fun i p hp => h4 _ _ (by rw [hx]; exact (flat2_get _ i p hp).1), fun i p hp => h4 _ _ (by rw [hx]; exact (flat2_get _ i p hp).2)⟩, by omega⟩
  · have hm0 : m = 0 := by omega
    have hnil : (F.ends F.N) = [] := List.length_eq_zero_iff.1 (by omega)
    rcases h.own.2 with ⟨h1, -⟩ | ⟨g, cap, cur, h1, h2, h3, -⟩
    · rw [h1] at k18
      exact ⟨none, eb, 0, ⟨h.k17, by rw [k18, hnil]; rfl, h.fl.hdr.hfb, h.lt, h.lt, hE, fun hh => by rw [hnil] at hh; simp at hh, fun i p hp => by rw [hnil] at hp; simp at hp, fun i p hp => by rw [hnil] at hp; simp at hp⟩, Nat.le_refl _⟩
    · rw [h1, hm] at k18
      exact ⟨_, eb, cap, ⟨h.k17, k18, h.fl.hdr.hfb, h.lt, h.lt, hE, fun hh => by rw [hnil] at hh; simp at hh, fun i p hp => by rw [hnil] at hp; simp at hp, fun i p hp => by rw [hnil] at hp; simp at hp⟩, Nat.le_refl _⟩
/-- There is a floor at a pointer; its blocks meet T. -/
def HasFlo (w : World) (T : Nat → Prop) (fb : Nat) : Prop := ∃ F sb cb tb db NN dist dia D, F.fb = fb ∧ Flo w F sb cb tb db NN dist dia D ∧ OnB F sb cb tb db T ∧ ∃ eb ao xb cp, Edg w F eb ao xb cp ∧ T eb ∧ T xb
theorem OnB.thin {F : FP} {sb cb tb db : Nat} {T T' : Nat → Prop} (h : OnB F sb cb tb db T) (hi : ∀ k, T k → T' k) : OnB F sb cb tb db T' :=
  ⟨hi _ h.fb, hi _ h.kb, hi _ h.ib, hi _ h.qb, hi _ h.ab, hi _ h.ob, hi _ h.pb, hi _ h.sb, hi _ h.cb, hi _ h.tb, hi _ h.db⟩
theorem HasFlo.on {w w' : World} {T T' : Nat → Prop} {fb : Nat} (h : HasFlo w T fb) (hs : w.heap.size ≤ w'.heap.size) (hb : ∀ k, T k → w'.heap[k]? = w.heap[k]? ∧ T' k) : HasFlo w' T' fb := by
  obtain ⟨F, sb, cb, tb, db, NN, dist, dia, D, h1, h2, h3, eb, ao, xb, cp, h4, h5, h6⟩ := h
  exact ⟨F, sb, cb, tb, db, NN, dist, dia, D, h1, h2.on h3 hs (fun k hk => (hb k hk).1), h3.thin (fun k hk => (hb k hk).2), eb, ao, xb, cp,
    h4.of hs (World.cell?_of_block (hb _ h3.fb).1) (World.cell?_of_block (hb _ h3.fb).1) (hb _ h5).1 (hb _ h6).1, (hb _ h5).2, (hb _ h6).2⟩
end Go.Proofs.Qxb6500715aFmt
