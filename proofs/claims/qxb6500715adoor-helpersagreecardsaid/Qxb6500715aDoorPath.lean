/-
  NextHop and Path.
-/
import Derived.Test.Qxb6500715aDoorWalk
import Derived.Test.Qxb6500715aDoorReach
namespace Go.Proofs.Qxb6500715aDoor
open Go.RowKit
set_option linter.unusedSimpArgs false
set_option linter.unusedVariables false

theorem cell_below {w w' : World} {b i : Nat} {v : Value} (hb : Below w.heap.size w w') (hlt : b < w.heap.size) (h : w.cell? ⟨b, i, none⟩ = some v) : w'.cell? ⟨b, i, none⟩ = some v :=
  (World.cell?_of_block (hb.block _ hlt)).trans h

/-- What NextHop hands back. -/
def hopPost (F : FP) (a b : Nat) (w : World) (e : Ending) (w' : World) : Prop :=
  ∃ nb : Nat, e = .returned (.tuple #[.int .i64 (nb), .bool true]) ∧ nb ∈ F.adj a ∧ F.dst b nb < F.dst b a ∧ ∃ z, w' = w.ext z

set_option maxHeartbeats 2000000 in
theorem nextHop_any (F : FP) (sb cb tb db NN : Nat) (dist : Nat → Nat → Int) (dia : Int) (D : Array Value) (a b : Nat) (w : World) (h : Flo w F sb cb tb db NN dist dia D) (ha : a < F.N) (hb : b < F.N) (hne : a ≠ b) :
    Calls Tryd.prog 54 #[.pointer (some ⟨F.fb, 0, none⟩), .int .i64 (a), .int .i64 (b)] w (hopPost F a b w) := by
  have HH := hid h
  have hN := h.hN
  have hpl := h.fl.plain
  have HF := hid (dst_falls h.fl.pln hb ha (Ne.symm hne))
  obtain ⟨la, hla⟩ : ∃ la, (F.adj a).length = la := ⟨_, rfl⟩
  obtain ⟨no, hno⟩ : ∃ no, F.no a = no := ⟨_, rfl⟩
  obtain ⟨an, han⟩ : ∃ an, an = b * F.N := ⟨_, rfl⟩
  obtain ⟨da, hda⟩ : ∃ da, F.dst b a = da := ⟨_, rfl⟩
  have hla4 : la ≤ 4 := by rw [← hla]; exact F.adjTo_len a 4
  have hda4 : da ≤ 384 := by rw [← hda]; exact (h.dst hb ha).2.2
  have HLA := hid hla
  have HNO := hid hno
  have HAN := hid han
  have HDA := hid hda
  have bne : ((a : Int) == b) = false := by simp; omega
  have hfb := h.fl.hdr.hfb
  have hlt := h.lt
  clear h hla hno han hda
  go_enter Tryd.func54, Tryd.ntmps54
  go_wp2_with (first | (go_at_call 50; (first | with_reducible refine (valid_yes F a _ HH.out.fl ha).mono ?_ | with_reducible refine (valid_yes F b _ HH.out.fl hb).mono ?_); rintro e w ⟨rfl, rfl⟩) | (go_at_call 17; refine (field_any F sb cb tb db NN dist dia D b an _ HH.out hb HAN.out).mono ?_; rintro e w' ⟨rfl, z1, rfl⟩) | (go_at_call 21; refine (at_any F sb cb tb db NN dist dia D b an a da _ ((HH.out.ex _).al _) hb HAN.out ha HDA.out).mono ?_; rintro e w' ⟨rfl, z2, rfl⟩) | (go_at_call 15; refine (neighbors_is F sb cb a la no _ (((HH.out.ex _).al _).ex _).fl (((HH.out.ex _).al _).ex _).lk hN.2 ha HLA.out HNO.out).mono ?_; rintro e w5 ⟨rfl, hz5⟩))
  have c0 : w5.cell? ⟨w.heap.size + z1.heap.size, 0, none⟩ = some (.int .i64 (b)) := by obtain ⟨z, rfl⟩ := hz5; simp [go_sem, ↓IntWalk.iteOmega]
  have c1 : w5.cell? ⟨w.heap.size + z1.heap.size, 1, none⟩ = some (.slice (some ⟨db, an, none⟩) F.N F.N) := by obtain ⟨z, rfl⟩ := hz5; simp [go_sem, ↓IntWalk.iteOmega]
  have hB5 : Below w.heap.size w w5 := by
    obtain ⟨z, rfl⟩ := hz5
    exact (((World.below_ext w z1).al _).ex _).ex _
  have hs5 : w.heap.size + z1.heap.size < w5.heap.size := by obtain ⟨z, rfl⟩ := hz5; simp; omega
  have hFl5 := HH.out.below hB5
  have HF5 := hid hFl5
  have HB5 := hid hB5
  clear hz5 hFl5 hB5
  obtain ⟨B, hBe⟩ : ∃ B, w.heap.size + z1.heap.size = B := ⟨_, rfl⟩
  rw [hBe] at c0 c1 hs5 ⊢
  clear hBe
  go_loopw [41] (fun x wr => ∃ t : Nat, x = .int .i64 (t) ∧ t ≤ la ∧ (∀ (j c : Nat), j < t → (F.adj a)[j]? = some c → da ≤ F.dst b c) ∧ Below w5.heap.size w5 wr) (fun x _ => la - (intOf x).toNat)
  case atStart => exact ⟨0, rfl, Nat.zero_le _, fun j c hj => by omega, Below.rf _⟩
  case round =>
    obtain ⟨t, rfl, ht, hbef, hB⟩ := hrel
    have hFl := HF5.out.below hB
    have hsz := hB.size
    have d0 := cell_below hB hs5 c0
    have d1 := cell_below hB hs5 c1
    have HBE := hid hbef
    have HB := hid hB
    by_cases hlt : t < la
    · have hta : t < (F.adj a).length := by rw [HLA.out]; exact hlt
      have cn := hFl.lk.nb ha hta
      have hbm : (F.adj a)[t] ∈ F.adj a := List.getElem_mem hta
      have hbt : (F.adj a)[t]? = some (F.adj a)[t] := List.getElem?_eq_getElem hta
      rw [HNO.out] at cn
      generalize (F.adj a)[t] = x at *
      have hxN := adj_lt hpl ha hbm
      have hcbs := hFl.lk.lt.2
      obtain ⟨dx, hdx⟩ : ∃ dx, F.dst b x = dx := ⟨_, rfl⟩
      have hdx4 : dx ≤ 384 := by rw [← hdx]; exact (hFl.dst hb hxN).2.2
      have bt : decide ((t : Int) < la) = true := by simp; omega
      have HDX := hid hdx
      have HBT := hid hbt
      have HBM := hid hbm
      by_cases hless : dx < da
      · clear hbef hB hdx hbt hbm
        go_wp2_with (go_at_call 21; refine (at_any F sb cb tb db NN dist dia D b an x dx _ hFl hb HAN.out hxN HDX.out).mono ?_; rintro e w' ⟨rfl, z4, rfl⟩)
        go_ret2
        refine ⟨x, rfl, HBM.out, by rw [HDX.out, HDA.out]; exact hless, ?_⟩
        exact ((HB5.out.trans (HB.out.mono HB5.out.size)).ex _).is_ext
      · clear hbef hB hdx hbt hbm
        go_wp2_with (go_at_call 21; refine (at_any F sb cb tb db NN dist dia D b an x dx _ hFl hb HAN.out hxN HDX.out).mono ?_; rintro e w' ⟨rfl, z4, rfl⟩)
        go_roundw
        case rel =>
          refine ⟨t + 1, by go_num, by omega, fun j c hj hc => ?_, HB.out.ex _⟩
          by_cases hjt : j = t
          · subst hjt
            rw [HBT.out] at hc
            obtain rfl := Option.some.inj hc
            rw [HDX.out]; omega
          · exact HBE.out j c (by omega) hc
        case measure => simp [intOf]; omega
    · exfalso
      obtain ⟨c, hc, hf⟩ := HF.out
      obtain ⟨i, hi, he⟩ := List.getElem_of_mem hc
      have := hbef i c (by rw [HLA.out] at hi; omega) (by rw [List.getElem?_eq_getElem hi, he])
      rw [HDA.out] at hf
      omega

/-- What Path and Route hand back. -/
def wayPost (F : FP) (a b : Nat) (w : World) (e : Ending) (w' : World) : Prop :=
  ∃ (T : List Nat) (g cp : Nat), e = .returned (.slice (some ⟨g, 0, none⟩) (F.dst a b + 1) cp) ∧ T.length = F.dst a b + 1 ∧ Trail F a b T ∧ g < w'.heap.size ∧ F.dst a b + 1 ≤ cp ∧ RowIs w' g T ∧ ∃ z, w' = w.ext z

theorem own_row {w : World} {base g n cp : Nat} {T : List Nat} (h : w.ownsRow base 28 1 (.slice (some ⟨g, 0, none⟩) n cp) n (idRow T)) (hn : 0 < n) : n ≤ cp ∧ base ≤ g ∧ g < w.heap.size ∧ RowIs w g T := by
  obtain ⟨g', cap, hv, hc, hb, hlt, hcells⟩ := ownsRow_cells h hn
  simp only [Value.slice.injEq, Option.some.injEq, Addr.mk.injEq, and_true, true_and] at hv
  obtain ⟨rfl, rfl⟩ := hv
  exact ⟨hc, hb, hlt, fun i c hc => hcells i _ (by simp [idRow, hc])⟩

set_option maxRecDepth 20000 in
set_option maxHeartbeats 2000000 in
theorem path_any (F : FP) (sb cb tb db NN : Nat) (dist : Nat → Nat → Int) (dia : Int) (D : Array Value) (a b : Nat) (w : World) (h : Flo w F sb cb tb db NN dist dia D) (ha : a < F.N) (hb : b < F.N) :
    Calls Tryd.prog 23 #[.pointer (some ⟨F.fb, 0, none⟩), .int .i64 (a), .int .i64 (b)] w (wayPost F a b w) := by
  have HH := hid h
  have hN := h.hN
  have hp := h.fl.pln
  have hpl := h.fl.plain
  have hfb := h.fl.hdr.hfb
  obtain ⟨dd, hdd⟩ : ∃ dd, F.dst a b = dd := ⟨_, rfl⟩
  have hd4 : dd ≤ 384 := by rw [← hdd]; exact (h.dst ha hb).2.2
  have HDD := hid hdd
  obtain ⟨Z, hZ, hmk⟩ := make_cap (P := Tryd.prog) 31 28 (.int .i64 0) 1 8 Tryd.underlying31 (by kernel_rfl) (dd + 1) (by omega) (by omega)
  have hmk' : ∀ (kl kc : IntKind) (w : World), (Instr.makeSlice 31 (.int kl 0) (.int kc ((dd : Int) + 1))).run Tryd.prog w = .ok (.slice (some ⟨w.heap.size, 0, none⟩) 0 (dd + 1)) (w.alloc (.cells Z 28)) := by
    intro kl kc w; have := hmk kl kc w; rw [show ((dd + 1 : Nat) : Int) = (dd : Int) + 1 by omega] at this; exact this
  clear h hmk hdd
  go_enter Tryd.func23, Tryd.ntmps23
  go_wp2_with (first | (go_at_call 50; (first | with_reducible refine (valid_yes F a _ HH.out.fl ha).mono ?_ | with_reducible refine (valid_yes F b _ HH.out.fl hb).mono ?_); rintro e w ⟨rfl, rfl⟩) | (go_at_call 19; refine (tableDist_any F sb cb tb db NN dist dia D a b dd _ HH.out ha hb HDD.out).mono ?_; rintro e w' ⟨rfl, z1, rfl⟩) | (at_builtin; refine hold ?_))
  unfold Hid
  refine wp_app rfl _ _ 31 rfl w.heap.size 28 (.int .i64 0) 1 8 Tryd.underlying31 (by kernel_rfl) rfl (by decide) _ 0 [] rfl ?_ _ 0 1 1 [.int .i64 (a)] rfl rfl ?_ (by simp [Value.oneCell']) (by omega) (by omega) ?_ ?_
  · refine ownsRow_alloc (owns_made _ _ _ ?_ ?_ ?_ hZ) _
    · (first | omega | (simp only [World.size_ext, World.size_alloc, World.size_setCell, World.size_drew, Array.size_append]; done) | (simp only [World.size_ext, World.size_alloc, World.size_setCell, World.size_drew, Array.size_append]; omega))
    · (first | omega | (simp only [World.size_ext, World.size_alloc, World.size_setCell, World.size_drew, Array.size_append]; done) | (simp only [World.size_ext, World.size_alloc, World.size_setCell, World.size_drew, Array.size_append]; omega))
    · simp only [maxLen]; omega
  · intro j u hj; simp [go_sem, ↓IntWalk.iteOmega]; simpa using hj
  · (first | omega | (simp only [World.size_ext, World.size_alloc, World.size_setCell, World.size_drew, Array.size_append]; done) | (simp only [World.size_ext, World.size_alloc, World.size_setCell, World.size_drew, Array.size_append]; omega))
  intro v1 w1 hown hb1
  have hB1 : Below w.heap.size w w1 := by
    refine Below.trans ?_ hb1
    exact ((((World.below_ext w z1).al _).al _).mono (by (first | omega | (simp only [World.size_ext, World.size_alloc, World.size_setCell, World.size_drew, Array.size_append]; done) | (simp only [World.size_ext, World.size_alloc, World.size_setCell, World.size_drew, Array.size_append]; omega))))
  clear hb1
  go_wp2
  go_loopw [7, 8] (fun v x wr => ∃ (T : List Nat) (c g cp : Nat), v = .slice (some ⟨g, 0, none⟩) T.length cp ∧ x = .int .i64 (c) ∧ Trail F a c T ∧ T.length + F.dst b c = dd + 1 ∧ wr.ownsRow w.heap.size 28 1 (.slice (some ⟨g, 0, none⟩) T.length cp) T.length (idRow T) ∧ Below w.heap.size w wr) (fun _ x _ => F.dst b (intOf x).toNat)
  case atStart =>
    obtain ⟨g, cp, rfl, -, -, -, -⟩ := ownsRow_cells hown (by omega)
    exact ⟨[a], a, g, cp, rfl, rfl, Trail.one ha, by rw [dst_comm, HDD.out]; simp; omega, hown, hB1⟩
  case round =>
    clear hown hB1 hmk'
    obtain ⟨T, c, g, cp, rfl, rfl, hT, hlen, hown, hB⟩ := hrel
    have hcN := hT.lt1
    have hT0 := hT.len
    have HT := hid hT
    have HO := hid hown
    have HB := hid hB
    have hFl : Flo wr F sb cb tb db NN dist dia D := HH.out.below hB
    have hsz := hB.size
    obtain ⟨m, hm⟩ : ∃ m, T.length = m := ⟨_, rfl⟩
    have HM := hid hm
    rw [hm] at hlen hT0 ⊢
    by_cases hcb : c = b
    · subst hcb
      have : F.dst c c = 0 := by simp [FP.dst]
      rw [this] at hlen
      clear hT hown hB hm
      go_wp2
      go_ret
      have ho := HO.out
      rw [HM.out] at ho
      obtain ⟨o1, o2, o3, o4⟩ := own_row ho hT0
      have e1 : F.dst a c + 1 = m := by rw [HDD.out]; omega
      exact ⟨T, g, cp, by rw [e1]; rfl, by rw [e1, HM.out], HT.out, o3, by rw [e1]; exact o1, o4, HB.out.is_ext⟩
    · have bne : ((c : Int) == b) = false := by simp; omega
      have hdc : F.dst b c ≤ 384 := (hFl.dst hb hcN).2.2
      obtain ⟨dc, hdce⟩ : ∃ dc, F.dst b c = dc := ⟨_, rfl⟩
      rw [hdce] at hlen hdc
      have HDC := hid hdce
      clear hT hown hB hm hdce
      go_wp2_with (first | (go_at_call 54; refine (nextHop_any F sb cb tb db NN dist dia D c b _ hFl hcN hb hcb).mono ?_; rintro e w' ⟨nb, rfl, hnb, hless, z2, rfl⟩) | (at_builtin; refine hold ?_))
      unfold Hid
      have hnN : nb < F.N := adj_lt hpl hcN hnb
      have hback := dst_lips hp hb hnN (adj_symm hpl hcN hnb)
      rw [HDC.out] at hless hback
      refine wp_app rfl _ _ 31 rfl w.heap.size 28 (.int .i64 0) 1 8 Tryd.underlying31 (by kernel_rfl) rfl (by decide) _ m (idRow T) rfl ?_ _ 0 1 1 [.int .i64 (nb)] rfl rfl ?_ (by simp [Value.oneCell']) (by omega) (by omega) ?_ ?_
      · have ho := HO.out
        rw [HM.out] at ho
        exact ownsRow_alloc (ownsRow_ext ho) _
      · intro j u hj; simp [go_sem, ↓IntWalk.iteOmega]; simpa using hj
      · (first | omega | (simp only [World.size_ext, World.size_alloc, World.size_setCell, World.size_drew, Array.size_append]; done) | (simp only [World.size_ext, World.size_alloc, World.size_setCell, World.size_drew, Array.size_append]; omega))
      intro v2 w2 hown2 hb2
      have hB2 : Below w.heap.size w w2 := HB.out.trans (Below.trans (((World.below_ext wr z2).al _).mono (by (first | omega | (simp only [World.size_ext, World.size_alloc, World.size_setCell, World.size_drew, Array.size_append]; done) | (simp only [World.size_ext, World.size_alloc, World.size_setCell, World.size_drew, Array.size_append]; omega)))) hb2)
      obtain ⟨g2, cp2, rfl, -, -, -, -⟩ := ownsRow_cells hown2 (by omega)
      have HO2 := hid hown2
      have HB2 := hid hB2
      clear hown2 hb2 hB2
      go_wp2
      go_roundw
      case rel =>
        have hl2 : (T ++ [nb]).length = m + 1 := by simp [HM.out]
        refine ⟨T ++ [nb], nb, g2, cp2, by rw [hl2], rfl, HT.out.push hnb hnN, by rw [hl2]; omega, ?_, HB2.out⟩
        rw [hl2]; unfold idRow; rw [List.map_append]; exact HO2.out
      case measure => simp [intOf]; rw [HDC.out]; exact hless
end Go.Proofs.Qxb6500715aDoor
