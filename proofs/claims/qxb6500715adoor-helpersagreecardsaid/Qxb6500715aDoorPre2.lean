/-
  frontFirst, leftFirst: the walks.
-/
import Derived.Test.Qxb6500715aDoorAis
import Derived.Test.Qxb6500715aDoorLaw4
namespace Go.Proofs.Qxb6500715aDoor
open Go.RowKit
set_option linter.unusedSimpArgs false
set_option linter.unusedVariables false

theorem aisleOf_ex (F : FP) (hp : Pln F) {c : Nat} (hc : c < F.N) : ∃ (x y : Int) (z : Bool), (∀ w, FlN w F → Calls Tryd.prog 60 #[.pointer (some ⟨F.fb, 0, none⟩), .int .i64 (c)] w fun e w' => e = .returned (.tuple #[.int .i64 (x), .int .i64 (y), .bool z]) ∧ ∃ z, w' = w.ext z) ∧
    ((z = true ∧ F.kd (F.pl c) = 4 ∧ ∃ al : Nat, x = al ∧ al < F.A ∧ F.col c = 1 + al * F.P) ∨ (z = false ∧ F.kd (F.pl c) ≠ 4)) := by
  by_cases hk : F.kd (F.pl c) = 4
  · have := kc_cases hp hc
    rw [hk] at this
    simp at this
    obtain ⟨h1, h2, al, hal, hq⟩ := this
    exact ⟨al, ((F.row c : Nat) : Int) - 2, true, fun w h => aisleOf_yes F c al (F.row c) w h hc hk hal hq rfl, Or.inl ⟨rfl, hk, al, rfl, hal, hq⟩⟩
  · exact ⟨0, 0, false, fun w h => aisleOf_no F c _ w h hc rfl hk, Or.inr ⟨rfl, hk⟩⟩

section
variable {F : FP}
theorem cross_cell (hp : Pln F) {r q : Nat} (hr : isX F.S r) (hq : q < F.W) : F.idp (r, q) < F.N ∧ F.row (F.idp (r, q)) = r ∧ F.col (F.idp (r, q)) = q ∧ ¬ F.isB (F.idp (r, q)) ∧ F.ex (F.idp (r, q)) = 0 ∧ F.ar (F.idp (r, q)) = r := by
  have h : F.idp (r, q) < F.N ∧ F.row (F.idp (r, q)) = r ∧ F.col (F.idp (r, q)) = q ∧ ¬ F.isB (F.idp (r, q)) := id_co hp (x_on hp hr hq)
  obtain ⟨h1, h2, h3, h4⟩ := h
  exact ⟨h1, h2, h3, h4, by unfold FP.ex; rw [if_neg h4], by unfold FP.ar; rw [if_neg h4]; exact h2⟩
/-- The three stretches by the front. -/
theorem front_len (hp : Pln F) {a b : Nat} (ha : a < F.N) (hb : b < F.N) (ka : F.kd (F.pl a) = 4) (kb : F.kd (F.pl b) = 4) :
    F.dst a (F.idp (1, F.col a)) = F.row a - 1 ∧ F.dst (F.idp (1, F.col a)) (F.idp (1, F.col b)) = nab (F.col a) (F.col b) ∧ F.dst (F.idp (1, F.col b)) b = F.row b - 1 ∧ F.idp (1, F.col a) < F.N ∧ F.idp (1, F.col b) < F.N := by
  have ca := kc_cases hp ha
  have cb := kc_cases hp hb
  rw [ka] at ca
  rw [kb] at cb
  simp at ca cb
  have na : ¬ F.isB a := by unfold FP.isB; rw [ka]; decide
  have nb : ¬ F.isB b := by unfold FP.isB; rw [kb]; decide
  have ea : F.ar a = F.row a := by unfold FP.ar; rw [if_neg na]
  have eb : F.ar b = F.row b := by unfold FP.ar; rw [if_neg nb]
  have x1 : isX F.S 1 := Or.inl rfl
  have xa : ¬ isX F.S (F.row a) := by omega
  have xb : ¬ isX F.S (F.row b) := by omega
  obtain ⟨g1, g2, g3, g4, exg, arg⟩ := cross_cell hp x1 (cell_on hp ha).2.1
  obtain ⟨k1, k2, k3, k4, exk, ark⟩ := cross_cell hp x1 (cell_on hp hb).2.1
  have exa : F.ex a = 0 := by unfold FP.ex; rw [if_neg na]
  refine ⟨?_, ?_, ?_, g1, k1⟩
  · rw [dst_nb hp g4 ha g1, exa, ea, g2, g3, ad_ix xa x1]; unfold nab; omega
  · rw [dst_nb hp k4 g1 k1, exg, arg, k2, k3, g3, ad_same x1 rfl]; omega
  · rw [dst_nb hp nb k1 hb, exk, ark, k3, ad_xi x1 xb]; unfold nab; omega
end

set_option maxRecDepth 20000 in
set_option maxHeartbeats 2000000 in
theorem frontFirst_any (F : FP) (sb cb tb db NN : Nat) (dist : Nat → Nat → Int) (dia : Int) (D : Array Value) (a b : Nat) (w : World) (h : Flo w F sb cb tb db NN dist dia D) (ha : a < F.N) (hb : b < F.N) :
    Calls Tryd.prog 29 #[.pointer (some ⟨F.fb, 0, none⟩), .int .i64 (a), .int .i64 (b)] w fun e w' => e = .returned (.bool true) ∧ ∃ z, w' = w.ext z := by
  have hp := h.fl.pln
  have HH := hid h.fl
  have hN := h.hN
  obtain ⟨xa, ya, za, cA, dA⟩ := aisleOf_ex F hp ha
  obtain ⟨xb, yb, zb, cB, dB⟩ := aisleOf_ex F hp hb
  have CA := hid cA
  have CB := hid cB
  have hd4 := (h.dst ha hb).2.2
  have HFLO := hid h
  clear cA cB h
  rcases dA with ⟨rfl, ka, al, rfl, hal, hqa⟩ | ⟨rfl, -⟩
  · rcases dB with ⟨rfl, kb, bl, rfl, hbl, hqb⟩ | ⟨rfl, -⟩
    · by_cases hab : al = bl
      · subst hab
        clear hp hqa hqb
        go_enter Tryd.func29, Tryd.ntmps29
        go_wp2_with (go_at_call 60; first | (with_reducible refine (CA.out _ HH.out).mono ?_; rintro e w' ⟨rfl, z1, rfl⟩) | (with_reducible refine (CB.out _ (HH.out.ex _)).mono ?_; rintro e w' ⟨rfl, z2, rfl⟩))
        go_ret
        refine ⟨rfl, ?_⟩
        refine Below.is_ext ?_
        repeat (first | with_reducible exact Below.rf _ | with_reducible exact World.below_ext _ _ | with_reducible refine Below.ex ?_ _ | with_reducible refine Below.al ?_ _ | with_reducible refine Below.setCell ?_ (by simp) _ | with_reducible refine Below.drew ?_)
      · have hP2 := hp.P2
        have hq : F.col a ≠ F.col b := by
          rw [hqa, hqb]; intro e
          have : al * F.P = bl * F.P := by omega
          exact hab (Nat.eq_of_mul_eq_mul_right (by omega) this)
        obtain ⟨l1, l2, l3, n1, n2⟩ := front_len hp ha hb ka kb
        have fok := front_ok hp ha hb ka kb hq
        have cF1 := fun w' (h' : FlN w' F) => aisleFront_any F al w' h' hal
        have cF2 := fun w' (h' : FlN w' F) => aisleFront_any F bl w' h' hbl
        rw [← hqa] at cF1
        rw [← hqb] at cF2
        generalize F.idp (1, F.col a) = mA at *
        generalize F.idp (1, F.col b) = mB at *
        have ra := (cell_on hp ha).1
        have rb := (cell_on hp hb).1
        have c1 := (cell_on hp ha).2.1
        have c2 := (cell_on hp hb).2.1
        have hWb := HH.out.hWb
        have hS := HH.out.lay.hS
        have hnab : nab (F.col a) (F.col b) ≤ 100 := by unfold nab; omega
        rw [← l1, ← l2, ← l3] at fok
        have g1 : F.dst a mA ≤ 100 := by omega
        have g2 : F.dst mA mB ≤ 100 := by omega
        have g3 : F.dst mB b ≤ 100 := by omega
        have D1 := hid (fun w' (h' : FlN w' F) => dist_any F a mA w' h' ha n1)
        have D2 := hid (fun w' (h' : FlN w' F) => dist_any F mA mB w' h' n1 n2)
        have D3 := hid (fun w' (h' : FlN w' F) => dist_any F mB b w' h' n2 hb)
        have D4 := hid (fun w' (h' : FlN w' F) => dist_any F a b w' h' ha hb)
        have RT := hid (fun w' (h' : FlN w' F) => route_any F a b w' h' ha hb hd4)
        have hRT := (rte_spec hp ha hb).2
        have F1 := hid cF1
        have F2 := hid cF2
        have FOK := hid fok
        have bal : ((al : Int) == bl) = false := by simp; omega
        generalize F.dst a mA = d1 at *
        generalize F.dst mA mB = d2 at *
        generalize F.dst mB b = d3 at *
        obtain ⟨d4, hd4e⟩ : ∃ d4, F.dst a b = d4 := ⟨_, rfl⟩
        rw [hd4e] at D4 hd4 FOK hRT
        have HD4 := hid hd4e
        obtain ⟨X, hXe⟩ : ∃ X, F.rte a b = X := ⟨_, rfl⟩
        rw [hXe] at hRT FOK
        have HXE := hid hXe
        have HRT := hid hRT
        clear hp hqa hqb hq fok cF1 cF2 l1 l2 l3 hnab hd4e hXe hRT ra rb c1 c2
        go_enter Tryd.func29, Tryd.ntmps29
        go_wp2_with (first | (go_at_call 60; first | (with_reducible refine (CA.out _ HH.out).mono ?_; rintro e w' ⟨rfl, z1, rfl⟩) | (with_reducible refine (CB.out _ (HH.out.ex _)).mono ?_; rintro e w' ⟨rfl, z2, rfl⟩)) | (go_at_call 61; first | (with_reducible refine (F1.out _ (HH.out.ex _)).mono ?_; rintro e w' ⟨rfl, z3, rfl⟩) | (with_reducible refine (F2.out _ (HH.out.ex _)).mono ?_; rintro e w' ⟨rfl, z4, rfl⟩)) | (go_at_call 20; first | (with_reducible refine (D1.out _ (HH.out.ex _)).mono ?_; rintro e w' ⟨rfl, z5, rfl⟩) | (with_reducible refine (D2.out _ (HH.out.ex _)).mono ?_; rintro e w' ⟨rfl, z6, rfl⟩) | (with_reducible refine (D3.out _ (HH.out.ex _)).mono ?_; rintro e w' ⟨rfl, z7, rfl⟩) | (with_reducible refine (D4.out _ (HH.out.ex _)).mono ?_; rintro e w' ⟨rfl, z8, rfl⟩)) | (go_at_call 25; refine hold ?_))
        · go_ret
          refine ⟨rfl, ?_⟩
          refine Below.is_ext ?_
          repeat (first | with_reducible exact Below.rf _ | with_reducible exact World.below_ext _ _ | with_reducible refine Below.ex ?_ _ | with_reducible refine Below.al ?_ _ | with_reducible refine Below.setCell ?_ (by simp) _ | with_reducible refine Below.drew ?_)
        · rename_i hle
          unfold Hid
          refine (RT.out _ (HH.out.ex _)).mono ?_
          rintro e w1 ⟨g, rfl, hg, hrow, hz⟩
          have fok := FOK.out (by omega)
          rw [HD4.out, HXE.out] at *
          have hB1 : Below w.heap.size w w1 := (World.below_ext w _).trans ((ext_below' hz).mono (by simp only [World.size_ext]; omega))
          have HB1 := hid hB1
          have HROW := hid hrow
          have HOK := hid fok
          clear hz hB1 hrow fok
          go_wp2
          go_loopw [80] (fun x wr => ∃ t : Nat, x = .int .i64 (t) ∧ t ≤ d4 + 1 ∧ Below w1.heap.size w1 wr) (fun x _ => d4 + 1 - (intOf x).toNat)
          case atStart => exact ⟨0, rfl, Nat.zero_le _, Below.rf _⟩
          case round =>
            obtain ⟨t, rfl, ht, hB⟩ := hrel
            have HB := hid hB
            have hsz := hB.size
            by_cases hlt : t < d4 + 1
            · have hta : t < X.length := by rw [HRT.out]; exact hlt
              have hct : X[t]? = some X[t] := List.getElem?_eq_getElem hta
              generalize X[t] = c at hct
              obtain ⟨hcN, hk6⟩ := HOK.out c (List.mem_of_getElem? hct)
              have ct := cell_below hB hg (HROW.out t c hct)
              have hF := HH.out.below (HB1.out.trans (hB.mono HB1.out.size))
              obtain ⟨k, hk⟩ : ∃ k, F.kd (F.pl c) = k := ⟨_, rfl⟩
              rw [hk] at hk6
              have HK := hid hk
              have b6 : (k == 6) = false := by simpa using hk6
              have bt : decide ((t : Int) < (d4 : Int) + 1) = true := by simp; omega
              clear hct hta hB hk hk6
              go_wp2_with (go_at_call 31; refine (kindOf_is F c k _ hF hcN HK.out).mono ?_; rintro e w' ⟨rfl, z9, rfl⟩)
              go_roundw
              case rel => exact ⟨t + 1, by go_num, by omega, HB.out.ex _⟩
              case measure => simp [intOf]; omega
            · clear hB
              go_wp2
              go_ret
              exact ⟨rfl, (HB1.out.trans (HB.out.mono HB1.out.size)).is_ext⟩
    · clear hp
      go_enter Tryd.func29, Tryd.ntmps29
      go_wp2_with (go_at_call 60; first | (with_reducible refine (CA.out _ HH.out).mono ?_; rintro e w' ⟨rfl, z1, rfl⟩) | (with_reducible refine (CB.out _ (HH.out.ex _)).mono ?_; rintro e w' ⟨rfl, z2, rfl⟩))
      go_ret
      refine ⟨rfl, ?_⟩
      refine Below.is_ext ?_
      repeat (first | with_reducible exact Below.rf _ | with_reducible exact World.below_ext _ _ | with_reducible refine Below.ex ?_ _ | with_reducible refine Below.al ?_ _ | with_reducible refine Below.setCell ?_ (by simp) _ | with_reducible refine Below.drew ?_)
  · clear hp dB
    go_enter Tryd.func29, Tryd.ntmps29
    go_wp2_with (go_at_call 60; first | (with_reducible refine (CA.out _ HH.out).mono ?_; rintro e w' ⟨rfl, z1, rfl⟩) | (with_reducible refine (CB.out _ (HH.out.ex _)).mono ?_; rintro e w' ⟨rfl, z2, rfl⟩))
    go_ret
    refine ⟨rfl, ?_⟩
    refine Below.is_ext ?_
    repeat (first | with_reducible exact Below.rf _ | with_reducible exact World.below_ext _ _ | with_reducible refine Below.ex ?_ _ | with_reducible refine Below.al ?_ _ | with_reducible refine Below.setCell ?_ (by simp) _ | with_reducible refine Below.drew ?_)

/-- An aisle to the left costs more. -/
theorem left_len {F : FP} (hp : Pln F) {a b al : Nat} (ha : a < F.N) (hb : b < F.N) (xa : isX F.S (F.row a)) (xb : isX F.S (F.row b)) (hr : F.row a ≠ F.row b) (hal : al < F.A) (hl : 1 + al * F.P < cCol F.A F.P (min (F.col a) (F.col b)) (max (F.col a) (F.col b))) :
    F.dst a b < F.dst a (F.idp (F.row a, 1 + al * F.P)) + (F.S + 1) + F.dst (F.idp (F.row b, 1 + al * F.P)) b ∧ F.idp (F.row a, 1 + al * F.P) < F.N ∧ F.idp (F.row b, 1 + al * F.P) < F.N := by
  have ca := kc_cases hp ha
  have cb := kc_cases hp hb
  have hS := hp.lay.hS
  have na : ¬ F.isB a := by intro h; unfold FP.isB at h; rw [h] at ca; simp at ca; omega
  have nb : ¬ F.isB b := by intro h; unfold FP.isB at h; rw [h] at cb; simp at cb; omega
  have ea : F.ar a = F.row a := by unfold FP.ar; rw [if_neg na]
  have exa : F.ex a = 0 := by unfold FP.ex; rw [if_neg na]
  have hlt := isAc_lt (A := F.A) (P := F.P) (x := 1 + al * F.P) ⟨al, hal, rfl⟩
  have hw : 1 + al * F.P < F.W := by rw [hp.hW]; omega
  obtain ⟨g1, g2, g3, g4, exg, arg⟩ := cross_cell hp xa hw
  obtain ⟨k1, k2, k3, k4, exk, ark⟩ := cross_cell hp xb hw
  have hcost := cX_left hp.P2 hl
  refine ⟨?_, g1, k1⟩
  rw [dst_nb hp nb ha hb, exa, ea, ad_diff xa xb hr, dst_nb hp g4 ha g1, exa, ea, g2, g3, ad_same xa rfl, dst_nb hp nb k1 hb, exk, ark, k3, ad_same xb rfl]
  rw [nab_comm (1 + al * F.P) (F.col b)]
  have : nab (F.row a) (F.row b) = F.S + 1 := by unfold nab; omega
  omega

set_option maxRecDepth 20000 in
set_option maxHeartbeats 2000000 in
theorem leftFirst_fb (F : FP) (sb cb tb db NN : Nat) (dist : Nat → Nat → Int) (dia : Int) (D : Array Value) (a b : Nat) (w : World) (h : Flo w F sb cb tb db NN dist dia D) (ha : a < F.N) (hb : b < F.N) (ka : F.kd (F.pl a) = 5) (kb : F.kd (F.pl b) = 6) :
    Calls Tryd.prog 30 #[.pointer (some ⟨F.fb, 0, none⟩), .int .i64 (a), .int .i64 (b)] w fun e w' => e = .returned (.bool true) ∧ ∃ z, w' = w.ext z := by
  have hp := h.fl.pln
  have HH := hid h.fl
  have hN := h.hN
  have hS := hp.lay.hS
  have hA := hp.lay.hA
  have hd4 := (h.dst ha hb).2.2
  have HFLO := hid h
  have hra : F.row a = 1 := by
    have := kc_cases hp ha
    rw [ka] at this
    simp at this
    exact this
  have hrb : F.row b = F.S + 2 := by
    have := kc_cases hp hb
    rw [kb] at this
    simp at this
    exact this
  have xa : isX F.S (F.row a) := by omega
  have xb : isX F.S (F.row b) := by omega
  have hr : F.row a ≠ F.row b := by omega
  obtain ⟨k0, c0, hk0, hbef, hat, hc0, kc0, hcol⟩ := left_at hp ha hb xa xb hr
  have hll := fun al => left_len (al := al) hp ha hb xa xb hr
  have OA := hid (fun w' (h' : FlN w' F) => onCross_yes F a 5 w' h' ha ka (by decide))
  have OB := hid (fun w' (h' : FlN w' F) => onCross_yes F b 6 w' h' hb kb (by decide))
  have KA := hid (fun w' (h' : FlN w' F) => kindOf_is F a 5 w' h' ha ka)
  have KB := hid (fun w' (h' : FlN w' F) => kindOf_is F b 6 w' h' hb kb)
  have RT := hid (fun w' (h' : FlN w' F) => route_any F a b w' h' ha hb hd4)
  have hRT := (rte_spec hp ha hb).2
  have D4 := hid (fun w' (h' : FlN w' F) => dist_any F a b w' h' ha hb)
  obtain ⟨al0, hal0, hcq⟩ : ∃ al0, al0 < F.A ∧ F.col c0 = 1 + al0 * F.P := by
    have := kc_cases hp hc0
    rw [kc0] at this
    simp at this
    exact this.2.2
  rw [← hcol, hcq] at hll
  have CO := hid (fun w' (h' : FlN w' F) => aisleOf_yes F c0 al0 (F.row c0) w' h' hc0 kc0 hal0 hcq rfl)
  have hrc := (cell_on hp hc0).1
  generalize F.row c0 = rc at *
  have HLL := hid hll
  have HBEF := hid hbef
  have HAT := hid hat
  have HP := hid hp
  rw [hra, hrb] at HLL
  obtain ⟨d4, hd4e⟩ : ∃ d4, F.dst a b = d4 := ⟨_, rfl⟩
  rw [hd4e] at D4 hd4 hRT hk0 HLL
  have HD4 := hid hd4e
  obtain ⟨X, hXe⟩ : ∃ X, F.rte a b = X := ⟨_, rfl⟩
  rw [hXe] at hRT HBEF HAT
  have HXE := hid hXe
  have HRT := hid hRT
  clear h hp ka kb hra hrb xa xb hr hbef hat kc0 hcol hll hRT hcq hd4e hXe
  go_enter Tryd.func30, Tryd.ntmps30
  go_wp2_with (first | (go_at_call 36; first | (with_reducible refine (OA.out _ HH.out).mono ?_; rintro e w' ⟨rfl, z1, rfl⟩) | (with_reducible refine (OB.out _ (HH.out.ex _)).mono ?_; rintro e w' ⟨rfl, z2, rfl⟩)) | (go_at_call 31; first | (with_reducible refine (KA.out _ (HH.out.ex _)).mono ?_; rintro e w' ⟨rfl, z3, rfl⟩) | (with_reducible refine (KB.out _ (HH.out.ex _)).mono ?_; rintro e w' ⟨rfl, z4, rfl⟩)) | (go_at_call 25; refine hold ?_))
  unfold Hid
  refine (RT.out _ (HH.out.ex _)).mono ?_
  rintro e w1 ⟨g, rfl, hg, hrow, hz⟩
  rw [HD4.out, HXE.out] at *
  have hB1 : Below w.heap.size w w1 := (World.below_ext w _).trans ((ext_below' hz).mono (by simp only [World.size_ext]; omega))
  have HB1 := hid hB1
  have HROW := hid hrow
  clear hz hB1 hrow
  go_wp2
  go_loopw [42] (fun x wr => ∃ t : Nat, x = .int .i64 (t) ∧ t ≤ k0 ∧ Below w1.heap.size w1 wr) (fun x _ => k0 - (intOf x).toNat)
  case atStart => exact ⟨0, rfl, Nat.zero_le _, Below.rf _⟩
  case round =>
    obtain ⟨t, rfl, ht, hB⟩ := hrel
    have HB := hid hB
    have hsz := hB.size
    have hF := HH.out.below (HB1.out.trans (hB.mono HB1.out.size))
    have bt : decide ((t : Int) < (d4 : Int) + 1) = true := by simp; omega
    by_cases hlt : t < k0
    · have hta : t < X.length := by rw [HRT.out]; omega
      have hct : X[t]? = some X[t] := List.getElem?_eq_getElem hta
      generalize X[t] = c at hct
      obtain ⟨hcN, hk4⟩ := HBEF.out t c hlt hct
      have ct := cell_below hB hg (HROW.out t c hct)
      have CN := hid (aisleOf_no F c _ wr hF hcN rfl hk4)
      clear hct hta hB hk4
      go_wp2_with (go_at_call 60; refine CN.out.mono ?_; rintro e w' ⟨rfl, z9, rfl⟩)
      go_roundw
      case rel => exact ⟨t + 1, by go_num, by omega, HB.out.ex _⟩
      case measure => simp [intOf]; omega
    · obtain rfl : t = k0 := by omega
      have ct := cell_below hB hg (HROW.out t c0 HAT.out)
      clear hB
      go_wp2_with (go_at_call 60; refine (CO.out _ hF).mono ?_; rintro e w' ⟨rfl, z9, rfl⟩)
      go_loopw [13] (fun x w2 => ∃ s : Nat, x = .int .i64 (s) ∧ s ≤ al0 ∧ Below wr.heap.size wr w2) (fun x _ => al0 - (intOf x).toNat)
      case atStart => exact ⟨0, rfl, Nat.zero_le _, World.below_ext _ _⟩
      case round =>
        obtain ⟨s, rfl, hs, hB2⟩ := hrel
        have HB2 := hid hB2
        have hF2 := hF.below hB2
        by_cases hls : s < al0
        · have hmul := Nat.mul_le_mul_right F.P (show s + 1 ≤ al0 by omega)
          rw [Nat.add_mul, Nat.one_mul] at hmul
          have hP2 := HP.out.P2
          obtain ⟨l1, l2, l3⟩ := HLL.out s (by omega) (by omega)
          have F1 := hid (fun w' (h' : FlN w' F) => aisleFront_any F s w' h' (by omega))
          have F2 := hid (fun w' (h' : FlN w' F) => aisleBack_any F s w' h' (by omega))
          generalize F.idp (1, 1 + s * F.P) = m1 at *
          generalize F.idp (F.S + 2, 1 + s * F.P) = m2 at *
          have b1 : F.dst a m1 ≤ 384 := (Flo.dst (HFLO.out) ha l2).2.2
          have b2 : F.dst m2 b ≤ 384 := (Flo.dst (HFLO.out) l3 hb).2.2
          have D1 := hid (fun w' (h' : FlN w' F) => dist_any F a m1 w' h' ha l2)
          have D2 := hid (fun w' (h' : FlN w' F) => dist_any F m2 b w' h' l3 hb)
          generalize F.dst a m1 = e1 at *
          generalize F.dst m2 b = e2 at *
          have bs : decide ((s : Int) < al0) = true := by simp; omega
          clear hB2 hmul hF
          go_wp2_with (first | (go_at_call 61; refine (F1.out _ hF2).mono ?_; rintro e w' ⟨rfl, y1, rfl⟩) | (go_at_call 62; refine (F2.out _ (hF2.ex _)).mono ?_; rintro e w' ⟨rfl, y2, rfl⟩) | (go_at_call 31; refine (KA.out _ (hF2.ex _)).mono ?_; rintro e w' ⟨rfl, y3, rfl⟩) | (go_at_call 63; refine (aisleLength_any F _ (hF2.ex _)).mono ?_; rintro e w' ⟨rfl, y4, rfl⟩) | (go_at_call 20; first | (with_reducible refine (D1.out _ (hF2.ex _)).mono ?_; rintro e w' ⟨rfl, y5, rfl⟩) | (with_reducible refine (D2.out _ (hF2.ex _)).mono ?_; rintro e w' ⟨rfl, y6, rfl⟩) | (with_reducible refine (D4.out _ (hF2.ex _)).mono ?_; rintro e w' ⟨rfl, y7, rfl⟩)))
          go_roundw
          case rel => exact ⟨s + 1, by go_num, by omega, HB2.out.ex _⟩
          case measure => simp [intOf]; omega
        · clear hB2 hF
          go_wp2
          go_ret
          refine ⟨?_, (HB1.out.trans ((HB.out.trans (HB2.out.mono hsz)).mono HB1.out.size)).is_ext⟩
          first | rfl | (simp; done) | (simp; omega)

set_option maxRecDepth 20000 in
set_option maxHeartbeats 2000000 in
theorem leftFirst_bf (F : FP) (sb cb tb db NN : Nat) (dist : Nat → Nat → Int) (dia : Int) (D : Array Value) (a b : Nat) (w : World) (h : Flo w F sb cb tb db NN dist dia D) (ha : a < F.N) (hb : b < F.N) (ka : F.kd (F.pl a) = 6) (kb : F.kd (F.pl b) = 5) :
    Calls Tryd.prog 30 #[.pointer (some ⟨F.fb, 0, none⟩), .int .i64 (a), .int .i64 (b)] w fun e w' => e = .returned (.bool true) ∧ ∃ z, w' = w.ext z := by
  have hp := h.fl.pln
  have HH := hid h.fl
  have hN := h.hN
  have hS := hp.lay.hS
  have hA := hp.lay.hA
  have hd4 := (h.dst ha hb).2.2
  have HFLO := hid h
  have hra : F.row a = F.S + 2 := by
    have := kc_cases hp ha
    rw [ka] at this
    simp at this
    exact this
  have hrb : F.row b = 1 := by
    have := kc_cases hp hb
    rw [kb] at this
    simp at this
    exact this
  have xa : isX F.S (F.row a) := by omega
  have xb : isX F.S (F.row b) := by omega
  have hr : F.row a ≠ F.row b := by omega
  obtain ⟨k0, c0, hk0, hbef, hat, hc0, kc0, hcol⟩ := left_at hp ha hb xa xb hr
  have hll := fun al => left_len (al := al) hp ha hb xa xb hr
  have OA := hid (fun w' (h' : FlN w' F) => onCross_yes F a 6 w' h' ha ka (by decide))
  have OB := hid (fun w' (h' : FlN w' F) => onCross_yes F b 5 w' h' hb kb (by decide))
  have KA := hid (fun w' (h' : FlN w' F) => kindOf_is F a 6 w' h' ha ka)
  have KB := hid (fun w' (h' : FlN w' F) => kindOf_is F b 5 w' h' hb kb)
  have RT := hid (fun w' (h' : FlN w' F) => route_any F a b w' h' ha hb hd4)
  have hRT := (rte_spec hp ha hb).2
  have D4 := hid (fun w' (h' : FlN w' F) => dist_any F a b w' h' ha hb)
  obtain ⟨al0, hal0, hcq⟩ : ∃ al0, al0 < F.A ∧ F.col c0 = 1 + al0 * F.P := by
    have := kc_cases hp hc0
    rw [kc0] at this
    simp at this
    exact this.2.2
  rw [← hcol, hcq] at hll
  have CO := hid (fun w' (h' : FlN w' F) => aisleOf_yes F c0 al0 (F.row c0) w' h' hc0 kc0 hal0 hcq rfl)
  have hrc := (cell_on hp hc0).1
  generalize F.row c0 = rc at *
  have HLL := hid hll
  have HBEF := hid hbef
  have HAT := hid hat
  have HP := hid hp
  rw [hra, hrb] at HLL
  obtain ⟨d4, hd4e⟩ : ∃ d4, F.dst a b = d4 := ⟨_, rfl⟩
  rw [hd4e] at D4 hd4 hRT hk0 HLL
  have HD4 := hid hd4e
  obtain ⟨X, hXe⟩ : ∃ X, F.rte a b = X := ⟨_, rfl⟩
  rw [hXe] at hRT HBEF HAT
  have HXE := hid hXe
  have HRT := hid hRT
  clear h hp ka kb hra hrb xa xb hr hbef hat kc0 hcol hll hRT hcq hd4e hXe
  go_enter Tryd.func30, Tryd.ntmps30
  go_wp2_with (first | (go_at_call 36; first | (with_reducible refine (OA.out _ HH.out).mono ?_; rintro e w' ⟨rfl, z1, rfl⟩) | (with_reducible refine (OB.out _ (HH.out.ex _)).mono ?_; rintro e w' ⟨rfl, z2, rfl⟩)) | (go_at_call 31; first | (with_reducible refine (KA.out _ (HH.out.ex _)).mono ?_; rintro e w' ⟨rfl, z3, rfl⟩) | (with_reducible refine (KB.out _ (HH.out.ex _)).mono ?_; rintro e w' ⟨rfl, z4, rfl⟩)) | (go_at_call 25; refine hold ?_))
  unfold Hid
  refine (RT.out _ (HH.out.ex _)).mono ?_
  rintro e w1 ⟨g, rfl, hg, hrow, hz⟩
  rw [HD4.out, HXE.out] at *
  have hB1 : Below w.heap.size w w1 := (World.below_ext w _).trans ((ext_below' hz).mono (by simp only [World.size_ext]; omega))
  have HB1 := hid hB1
  have HROW := hid hrow
  clear hz hB1 hrow
  go_wp2
  go_loopw [42] (fun x wr => ∃ t : Nat, x = .int .i64 (t) ∧ t ≤ k0 ∧ Below w1.heap.size w1 wr) (fun x _ => k0 - (intOf x).toNat)
  case atStart => exact ⟨0, rfl, Nat.zero_le _, Below.rf _⟩
  case round =>
    obtain ⟨t, rfl, ht, hB⟩ := hrel
    have HB := hid hB
    have hsz := hB.size
    have hF := HH.out.below (HB1.out.trans (hB.mono HB1.out.size))
    have bt : decide ((t : Int) < (d4 : Int) + 1) = true := by simp; omega
    by_cases hlt : t < k0
    · have hta : t < X.length := by rw [HRT.out]; omega
      have hct : X[t]? = some X[t] := List.getElem?_eq_getElem hta
      generalize X[t] = c at hct
      obtain ⟨hcN, hk4⟩ := HBEF.out t c hlt hct
      have ct := cell_below hB hg (HROW.out t c hct)
      have CN := hid (aisleOf_no F c _ wr hF hcN rfl hk4)
      clear hct hta hB hk4
      go_wp2_with (go_at_call 60; refine CN.out.mono ?_; rintro e w' ⟨rfl, z9, rfl⟩)
      go_roundw
      case rel => exact ⟨t + 1, by go_num, by omega, HB.out.ex _⟩
      case measure => simp [intOf]; omega
    · obtain rfl : t = k0 := by omega
      have ct := cell_below hB hg (HROW.out t c0 HAT.out)
      clear hB
      go_wp2_with (go_at_call 60; refine (CO.out _ hF).mono ?_; rintro e w' ⟨rfl, z9, rfl⟩)
      go_loopw [13] (fun x w2 => ∃ s : Nat, x = .int .i64 (s) ∧ s ≤ al0 ∧ Below wr.heap.size wr w2) (fun x _ => al0 - (intOf x).toNat)
      case atStart => exact ⟨0, rfl, Nat.zero_le _, World.below_ext _ _⟩
      case round =>
        obtain ⟨s, rfl, hs, hB2⟩ := hrel
        have HB2 := hid hB2
        have hF2 := hF.below hB2
        by_cases hls : s < al0
        · have hmul := Nat.mul_le_mul_right F.P (show s + 1 ≤ al0 by omega)
          rw [Nat.add_mul, Nat.one_mul] at hmul
          have hP2 := HP.out.P2
          obtain ⟨l1, l2, l3⟩ := HLL.out s (by omega) (by omega)
          have F1 := hid (fun w' (h' : FlN w' F) => aisleFront_any F s w' h' (by omega))
          have F2 := hid (fun w' (h' : FlN w' F) => aisleBack_any F s w' h' (by omega))
          generalize F.idp (1, 1 + s * F.P) = m1 at *
          generalize F.idp (F.S + 2, 1 + s * F.P) = m2 at *
          have b1 : F.dst a m2 ≤ 384 := (Flo.dst (HFLO.out) ha l2).2.2
          have b2 : F.dst m1 b ≤ 384 := (Flo.dst (HFLO.out) l3 hb).2.2
          have D1 := hid (fun w' (h' : FlN w' F) => dist_any F a m2 w' h' ha l2)
          have D2 := hid (fun w' (h' : FlN w' F) => dist_any F m1 b w' h' l3 hb)
          generalize F.dst a m2 = e1 at *
          generalize F.dst m1 b = e2 at *
          have bs : decide ((s : Int) < al0) = true := by simp; omega
          clear hB2 hmul hF
          go_wp2_with (first | (go_at_call 61; refine (F1.out _ hF2).mono ?_; rintro e w' ⟨rfl, y1, rfl⟩) | (go_at_call 62; refine (F2.out _ (hF2.ex _)).mono ?_; rintro e w' ⟨rfl, y2, rfl⟩) | (go_at_call 31; refine (KA.out _ (hF2.ex _)).mono ?_; rintro e w' ⟨rfl, y3, rfl⟩) | (go_at_call 63; refine (aisleLength_any F _ (hF2.ex _)).mono ?_; rintro e w' ⟨rfl, y4, rfl⟩) | (go_at_call 20; first | (with_reducible refine (D1.out _ (hF2.ex _)).mono ?_; rintro e w' ⟨rfl, y5, rfl⟩) | (with_reducible refine (D2.out _ (hF2.ex _)).mono ?_; rintro e w' ⟨rfl, y6, rfl⟩) | (with_reducible refine (D4.out _ (hF2.ex _)).mono ?_; rintro e w' ⟨rfl, y7, rfl⟩)))
          go_roundw
          case rel => exact ⟨s + 1, by go_num, by omega, HB2.out.ex _⟩
          case measure => simp [intOf]; omega
        · clear hB2 hF
          go_wp2
          go_ret
          refine ⟨?_, (HB1.out.trans ((HB.out.trans (HB2.out.mono hsz)).mono HB1.out.size)).is_ext⟩
          first | rfl | (simp; done) | (simp; omega)

set_option maxRecDepth 20000 in
set_option maxHeartbeats 2000000 in
theorem leftFirst_any (F : FP) (sb cb tb db NN : Nat) (dist : Nat → Nat → Int) (dia : Int) (D : Array Value) (a b : Nat) (w : World) (h : Flo w F sb cb tb db NN dist dia D) (ha : a < F.N) (hb : b < F.N) :
    Calls Tryd.prog 30 #[.pointer (some ⟨F.fb, 0, none⟩), .int .i64 (a), .int .i64 (b)] w fun e w' => e = .returned (.bool true) ∧ ∃ z, w' = w.ext z := by
  have hp := h.fl.pln
  have HH := hid h.fl
  obtain ⟨ka, hka⟩ : ∃ k, F.kd (F.pl a) = k := ⟨_, rfl⟩
  obtain ⟨kb, hkb⟩ : ∃ k, F.kd (F.pl b) = k := ⟨_, rfl⟩
  by_cases xa : ka = 5 ∨ ka = 6
  · by_cases xb : kb = 5 ∨ kb = 6
    · have same : ∀ k : Int, k = 5 ∨ k = 6 → F.kd (F.pl a) = k → F.kd (F.pl b) = k → Calls Tryd.prog 30 #[.pointer (some ⟨F.fb, 0, none⟩), .int .i64 (a), .int .i64 (b)] w fun e w' => e = .returned (.bool true) ∧ ∃ z, w' = w.ext z := by
        intro k hk h1 h2
        have OA := hid (fun w' (h' : FlN w' F) => onCross_yes F a k w' h' ha h1 hk)
        have OB := hid (fun w' (h' : FlN w' F) => onCross_yes F b k w' h' hb h2 hk)
        have KA := hid (fun w' (h' : FlN w' F) => kindOf_is F a k w' h' ha h1)
        have KB := hid (fun w' (h' : FlN w' F) => kindOf_is F b k w' h' hb h2)
        clear h hp hka hkb xa xb hk h1 h2
        go_enter Tryd.func30, Tryd.ntmps30
        go_wp2_with (first | (go_at_call 36; first | (with_reducible refine (OA.out _ HH.out).mono ?_; rintro e w' ⟨rfl, z1, rfl⟩) | (with_reducible refine (OB.out _ (HH.out.ex _)).mono ?_; rintro e w' ⟨rfl, z2, rfl⟩)) | (go_at_call 31; first | (with_reducible refine (KA.out _ (HH.out.ex _)).mono ?_; rintro e w' ⟨rfl, z3, rfl⟩) | (with_reducible refine (KB.out _ (HH.out.ex _)).mono ?_; rintro e w' ⟨rfl, z4, rfl⟩)))
        go_ret
        refine ⟨rfl, ?_⟩
        refine Below.is_ext ?_
        repeat (first | with_reducible exact Below.rf _ | with_reducible exact World.below_ext _ _ | with_reducible refine Below.ex ?_ _ | with_reducible refine Below.al ?_ _ | with_reducible refine Below.setCell ?_ (by simp) _ | with_reducible refine Below.drew ?_)
      rcases xa with rfl | rfl <;> rcases xb with rfl | rfl
      · exact same 5 (Or.inl rfl) hka hkb
      · exact leftFirst_fb F sb cb tb db NN dist dia D a b w h ha hb hka hkb
      · exact leftFirst_bf F sb cb tb db NN dist dia D a b w h ha hb hka hkb
      · exact same 6 (Or.inr rfl) hka hkb
    · have OA := hid (fun w' (h' : FlN w' F) => onCross_yes F a ka w' h' ha hka xa)
      have OB := hid (fun w' (h' : FlN w' F) => onCross_is F b kb false w' h' hb hkb (decide_eq_false xb))
      clear h hp hka hkb xa xb
      go_enter Tryd.func30, Tryd.ntmps30
      go_wp2_with (go_at_call 36; first | (with_reducible refine (OA.out _ HH.out).mono ?_; rintro e w' ⟨rfl, z1, rfl⟩) | (with_reducible refine (OB.out _ (HH.out.ex _)).mono ?_; rintro e w' ⟨rfl, z2, rfl⟩))
      go_ret
      refine ⟨rfl, ?_⟩
      refine Below.is_ext ?_
      repeat (first | with_reducible exact Below.rf _ | with_reducible exact World.below_ext _ _ | with_reducible refine Below.ex ?_ _ | with_reducible refine Below.al ?_ _ | with_reducible refine Below.setCell ?_ (by simp) _ | with_reducible refine Below.drew ?_)
  · have OA := hid (fun w' (h' : FlN w' F) => onCross_is F a ka false w' h' ha hka (decide_eq_false xa))
    clear h hp hka hkb xa
    go_enter Tryd.func30, Tryd.ntmps30
    go_wp2_with (go_at_call 36; refine (OA.out _ HH.out).mono ?_; rintro e w' ⟨rfl, z1, rfl⟩)
    go_ret
    exact ⟨rfl, ⟨_, rfl⟩⟩
end Go.Proofs.Qxb6500715aDoor
