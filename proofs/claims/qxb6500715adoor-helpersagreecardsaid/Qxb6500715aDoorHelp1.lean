/-
  AppendMoves, Eccentricity, DepotDist, Bays, BayOwner, Aisles, AisleSlots: the walks.
-/
import Derived.Test.Qxb6500715aDoorPre2
import Derived.Test.Qxb6500715aDoorReach2
import Derived.Test.Qxb6500715aDoorDrive
namespace Go.Proofs.Qxb6500715aDoor
open Go.RowKit
set_option linter.unusedSimpArgs false
set_option linter.unusedVariables false

/-- A new row of cells. -/
def newPost (T : List Nat) (m : Nat) (w : World) (e : Ending) (w' : World) : Prop :=
  ∃ g cp : Nat, e = .returned (.slice (some ⟨g, 0, none⟩) m cp) ∧ g < w'.heap.size ∧ RowIs w' g T ∧ ∃ z, w' = w.ext z

theorem own_new {w w' : World} {v : Value} {m : Nat} {T : List Nat} (h : w'.ownsRow w.heap.size 28 1 v m (idRow T)) (hm : 0 < m) (hB : Below w.heap.size w w') : newPost T m w (.returned v) w' := by
  obtain ⟨g, cp, rfl, -, -, hlt, hcells⟩ := ownsRow_cells h hm
  exact ⟨g, cp, rfl, hlt, fun i c hc => hcells i _ (by simp [idRow, hc]), hB.is_ext⟩

theorem nil_own (w : World) (base : Nat) (e : TypeId) : w.ownsRow base e 1 (.slice none 0 0) 0 [] := ⟨rfl, Or.inl ⟨rfl, rfl⟩⟩

set_option maxRecDepth 20000 in
set_option maxHeartbeats 2000000 in
theorem appendMoves_any (F : FP) (sb cb c la no : Nat) (w : World) (h : FlN w F) (hl : Lnk w F sb cb) (hN : F.N ≤ 384) (hc : c < F.N) (hla : (F.adj c).length = la) (hno : F.no c = no) :
    Calls Tryd.prog 73 #[.pointer (some ⟨F.fb, 0, none⟩), .slice none 0 0, .int .i64 (c)] w (newPost (c :: F.adj c) (la + 1) w) := by
  have HH := hid h
  have HL := hid hl
  have HLA := hid hla
  have HNO := hid hno
  have hla4 : la ≤ 4 := by rw [← hla]; exact F.adjTo_len c 4
  clear h hl hla hno
  go_enter Tryd.func73, Tryd.ntmps73
  go_wp2_with (first | (go_at_call 50; refine (valid_yes F c _ HH.out hc).mono ?_; rintro e w ⟨rfl, rfl⟩) | (at_builtin; refine hold ?_))
  unfold Hid
  refine wp_app rfl _ _ 31 rfl w.heap.size 28 (.int .i64 0) 1 8 Tryd.underlying31 (by kernel_rfl) rfl (by decide) _ 0 [] rfl (nil_own _ _ _) _ 0 1 1 [.int .i64 (c)] rfl rfl ?_ (by simp [Value.oneCell']) (by omega) (by omega) ?_ ?_
  · intro j u hj; simp [go_sem, ↓IntWalk.iteOmega]; simpa using hj
  · (first | omega | (simp only [World.size_ext, World.size_alloc, World.size_setCell, World.size_drew, Array.size_append]; done) | (simp only [World.size_ext, World.size_alloc, World.size_setCell, World.size_drew, Array.size_append]; omega))
  intro v1 w1 hown1 hb1
  have hB1 : Below w.heap.size w w1 := Below.trans (by (repeat (first | with_reducible exact Below.rf _ | with_reducible exact World.below_ext _ _ | with_reducible refine Below.ex ?_ _ | with_reducible refine Below.al ?_ _ | with_reducible refine Below.setCell ?_ (by simp) _ | with_reducible refine Below.drew ?_))) hb1
  have HO1 := hid hown1
  have HB1 := hid hB1
  have hF1 := HH.out.below hB1
  have hL1 := HL.out.below hB1
  clear hown1 hb1 hB1
  go_wp2_with (first | (go_at_call 15; refine (neighbors_is F sb cb c la no _ hF1 hL1 hN hc HLA.out HNO.out).mono ?_; rintro e w' ⟨rfl, z1, rfl⟩) | (at_builtin; refine hold ?_))
  unfold Hid
  refine wp_app rfl _ _ 31 rfl w.heap.size 28 (.int .i64 0) 1 8 Tryd.underlying31 (by kernel_rfl) rfl (by decide) _ 1 _ rfl (ownsRow_ext HO1.out) cb no la la (idRow (F.adj c)) rfl (by simp [idRow, HLA.out]) ?_ (by simp [idRow, Value.oneCell']) (by omega) (by omega) ?_ ?_
  · intro j u hj
    simp [idRow] at hj
    obtain ⟨x, hx, rfl⟩ := hj
    have hj2 := (List.getElem?_eq_some_iff.1 hx).1
    have := (hL1.ex z1).nb hc hj2
    rw [HNO.out] at this
    rw [this]
    have := (List.getElem?_eq_some_iff.1 hx).2
    rw [this]
  · have := HB1.out.size; (first | omega | (simp only [World.size_ext, World.size_alloc, World.size_setCell, World.size_drew, Array.size_append]; done) | (simp only [World.size_ext, World.size_alloc, World.size_setCell, World.size_drew, Array.size_append]; omega))
  intro v2 w2 hown2 hb2
  have hB2 : Below w.heap.size w w2 := (HB1.out.ex z1).trans hb2
  go_wp2
  go_ret
  refine own_new ?_ (by omega) hB2
  rw [Nat.add_comm la 1]
  exact hown2

/-- The greatest of the first k distances. -/
def FP.ecc (F : FP) (a : Nat) : Nat → Nat
  | 0 => 0
  | k + 1 => max (F.ecc a k) (F.dst a k)

set_option maxRecDepth 20000 in
set_option maxHeartbeats 2000000 in
theorem ecc_any (F : FP) (sb cb tb db NN : Nat) (dist : Nat → Nat → Int) (dia : Int) (D : Array Value) (a : Nat) (w : World) (h : Flo w F sb cb tb db NN dist dia D) (ha : a < F.N) :
    Calls Tryd.prog 75 #[.pointer (some ⟨F.fb, 0, none⟩), .int .i64 (a)] w fun e w' => e = .returned (.int .i64 (F.ecc a F.N)) ∧ ∃ z, w' = w.ext z := by
  have HH := hid h
  have hN := h.hN
  obtain ⟨an, han⟩ : ∃ an, an = a * F.N := ⟨_, rfl⟩
  have HAN := hid han
  have hdl := h.lt.2
  have hele : ∀ k, k ≤ F.N → F.ecc a k ≤ 384 := by
    intro k
    induction k with
    | zero => intro _; exact Nat.zero_le _
    | succ k ih => intro hk; have := ih (by omega); have := (h.dst ha (show k < F.N by omega)).2.2; simp only [FP.ecc]; omega
  have HEL := hid hele
  clear h han hele
  go_enter Tryd.func75, Tryd.ntmps75
  go_wp2_with (go_at_call 17; refine (field_any F sb cb tb db NN dist dia D a an _ HH.out ha HAN.out).mono ?_; rintro e w' ⟨rfl, z1, rfl⟩)
  go_loopw [7, 21] (fun y x wr => ∃ t : Nat, x = .int .i64 (t) ∧ y = .int .i64 (F.ecc a t) ∧ t ≤ F.N ∧ Below w.heap.size w wr) (fun _ x _ => F.N - (intOf x).toNat)
  case atStart => exact ⟨0, rfl, rfl, Nat.zero_le _, by (repeat (first | with_reducible exact Below.rf _ | with_reducible exact World.below_ext _ _ | with_reducible refine Below.ex ?_ _ | with_reducible refine Below.al ?_ _ | with_reducible refine Below.setCell ?_ (by simp) _ | with_reducible refine Below.drew ?_))⟩
  case round =>
    obtain ⟨t, rfl, rfl, ht, hB⟩ := hrel
    have HB := hid hB
    have hsz := hB.size
    have hE1 := HEL.out t ht
    by_cases hlt : t < F.N
    · have hFl := HH.out.below hB
      have tv := hFl.tv ha hlt
      rw [← HAN.out] at tv
      have hd4 := (hFl.dst ha hlt).2.2
      have hE2 := HEL.out (t + 1) (by omega)
      have e1 : F.ecc a (t + 1) = max (F.ecc a t) (F.dst a t) := rfl
      obtain ⟨fa, hfa⟩ : ∃ x, F.ecc a t = x := ⟨_, rfl⟩
      obtain ⟨fb2, hfb2⟩ : ∃ x, F.ecc a (t + 1) = x := ⟨_, rfl⟩
      rw [hfa] at hE1 e1 ⊢
      rw [hfb2] at e1 hE2
      generalize F.dst a t = d at *
      have HFB := hid hfb2
      have HE1 := hid e1
      have bt : decide ((t : Int) < F.N) = true := by simp; omega
      clear hB hFl hfa hfb2 e1
      rcases Nat.lt_trichotomy fa d with ho | ho | ho
      · go_wp2
        go_roundw
        case rel => exact ⟨t + 1, by go_num, by rw [HFB.out, HE1.out, Nat.max_eq_right (by omega)], by omega, HB.out⟩
        case measure => simp [intOf]; omega
      · subst ho
        go_wp2
        go_roundw
        case rel => exact ⟨t + 1, by go_num, by rw [HFB.out, HE1.out, Nat.max_self], by omega, HB.out⟩
        case measure => simp [intOf]; omega
      · go_wp2
        go_roundw
        case rel => exact ⟨t + 1, by go_num, by rw [HFB.out, HE1.out, Nat.max_eq_left (by omega)], by omega, HB.out⟩
        case measure => simp [intOf]; omega
    · obtain rfl : t = F.N := by omega
      clear hB
      go_wp2
      go_ret
      exact ⟨rfl, HB.out.is_ext⟩

theorem depotDist_any (F : FP) (dep c : Nat) (w : World) (h : FlN w F) (hdep : F.id (F.W + F.c) = dep) (hd : dep < F.N) (hc : c < F.N) :
    Calls Tryd.prog 76 #[.pointer (some ⟨F.fb, 0, none⟩), .int .i64 (c)] w fun e w' => e = .returned (.int .i64 (F.dst dep c)) ∧ ∃ z, w' = w.ext z := by
  have i12 := h.num.i12
  rw [show cnt (fun t => drv (F.kd t)) (F.W + F.c) = dep from hdep] at i12
  have HD := hid (dist_any F dep c w h hd hc)
  generalize F.dst dep c = x at *
  clear h hdep
  go_enter Tryd.func76, Tryd.ntmps76
  go_wp2_with (go_at_call 20; refine HD.out.mono ?_; rintro e w' ⟨rfl, z1, rfl⟩)
  go_ret
  exact ⟨rfl, ⟨_, rfl⟩⟩

set_option maxHeartbeats 1000000 in
theorem bays_any (F : FP) (w : World) (h : FlN w F) (hn : 1 ≤ F.n ∧ F.n ≤ 6) :
    Calls Tryd.prog 77 #[.pointer (some ⟨F.fb, 0, none⟩)] w (newPost (F.bays F.n) F.n w) := by
  have i13 := h.num.i13
  have hpk := h.num.park
  have hpk2 : ∀ r, r < F.n → w.cell? ⟨F.ab, r, none⟩ = some (.int .i64 (F.bay r)) := hpk
  have HPK := hid hpk2
  clear h hpk hpk2
  go_enter Tryd.func77, Tryd.ntmps77
  go_wp2_with (at_builtin; refine hold ?_)
  unfold Hid
  refine wp_app rfl _ _ 31 rfl w.heap.size 28 (.int .i64 0) 1 8 Tryd.underlying31 (by kernel_rfl) rfl (by decide) _ 0 [] rfl (nil_own _ _ _) F.ab 0 F.n F.n (idRow (F.bays F.n)) rfl (by simp [idRow, FP.bays]) ?_ (by simp [idRow, Value.oneCell']) (by omega) (by omega) (Nat.le_refl _) ?_
  · intro j u hj
    have hj2 := (List.getElem?_eq_some_iff.1 hj).1
    simp [idRow, FP.bays] at hj2
    simp [idRow, FP.bays, hj2] at hj
    rw [← hj, Nat.zero_add]; exact HPK.out j hj2
  intro v1 w1 hown1 hb1
  rw [Nat.zero_add] at hown1
  go_wp2
  go_ret
  exact own_new hown1 (by omega) hb1

theorem bayOwner_yes (F : FP) (c : Nat) (o : Int) (w : World) (h : FlN w F) (hc : c < F.N) (ho : ownr F.kd F.W F.px F.py F.n c = o) (h0 : 0 ≤ o) :
    Calls Tryd.prog 78 #[.pointer (some ⟨F.fb, 0, none⟩), .int .i64 (c)] w fun e w' => e = .returned (.tuple #[.int .i64 (o), .bool true]) ∧ ∃ z, w' = w.ext z := by
  have i14 := h.num.i14
  have hw := h.num.own c hc
  rw [ho] at hw
  have HV := hid (valid_yes F c w h hc)
  clear h ho
  go_enter Tryd.func78, Tryd.ntmps78
  go_wp2_with (go_at_call 50; refine HV.out.mono ?_; rintro e w' ⟨rfl, rfl⟩)
  go_ret2
  exact ⟨rfl, (Below.rf _).is_ext⟩
theorem bayOwner_no (F : FP) (c : Nat) (o : Int) (w : World) (h : FlN w F) (hc : c < F.N) (ho : ownr F.kd F.W F.px F.py F.n c = o) (h0 : o < 0) :
    Calls Tryd.prog 78 #[.pointer (some ⟨F.fb, 0, none⟩), .int .i64 (c)] w fun e w' => e = .returned (.tuple #[.int .i64 (0), .bool false]) ∧ ∃ z, w' = w.ext z := by
  have i14 := h.num.i14
  have hw := h.num.own c hc
  rw [ho] at hw
  have HV := hid (valid_yes F c w h hc)
  clear h ho
  go_enter Tryd.func78, Tryd.ntmps78
  go_wp2_with (go_at_call 50; refine HV.out.mono ?_; rintro e w' ⟨rfl, rfl⟩)
  go_ret2
  exact ⟨rfl, (Below.rf _).is_ext⟩

theorem aisles_any (F : FP) (w : World) (h : FlN w F) : Calls Tryd.prog 79 #[.pointer (some ⟨F.fb, 0, none⟩)] w fun e w' => e = .returned (.int .i64 (F.A)) ∧ w' = w := by
  have h0 := h.hdr.h0
  clear h
  go_enter Tryd.func79, Tryd.ntmps79
  go_wp2
  go_ret
  exact ⟨rfl, rfl⟩
theorem aisleSlots_any (F : FP) (w : World) (h : FlN w F) : Calls Tryd.prog 81 #[.pointer (some ⟨F.fb, 0, none⟩)] w fun e w' => e = .returned (.int .i64 (F.S)) ∧ w' = w := by
  have h0 := h.hdr.h1
  clear h
  go_enter Tryd.func81, Tryd.ntmps81
  go_wp2
  go_ret
  exact ⟨rfl, rfl⟩
end Go.Proofs.Qxb6500715aDoor
