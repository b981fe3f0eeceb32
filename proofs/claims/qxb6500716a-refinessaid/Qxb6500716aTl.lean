/-
  ReservePath: the walk.
-/
import Derived.Test.Qxb6500716aTk
namespace Go.Proofs.Qxb6500716a
open Go.RowKit Go.Maps
set_option linter.unusedSimpArgs false
set_option linter.unusedVariables false
set_option maxRecDepth 20000
set_option maxHeartbeats 4000000

/-- A list of integers in memory, to be read; its block is none of table or planner. -/
structure Ints (w : World) (lab : Nat → Nat) (v : Value) (l : List Int) : Prop where
  ex : ∃ ao cap, v = .slice ao l.length cap ∧ l.length ≤ cap
  len : l.length ≤ 4611686018427387904
  i64 : ∀ c, c ∈ l → I64 c
  row : ∀ (j : Nat) (c : Int), l[j]? = some c → ∃ b a n cap, v = .slice (some ⟨b, a, none⟩) n cap ∧ b < w.heap.size ∧ (lab b = 0 ∨ 10 ≤ lab b) ∧ w.cell? ⟨b, a + j, none⟩ = some (.int .i64 (c))
theorem Ints.keptL {w w' : World} {lab : Nat → Nat} {A : Nat → Prop} {v : Value} {l : List Int} (h : Ints w lab v l) (hk : KeptL lab A w w') (hA : ∀ x, A x → 0 < x ∧ x < 10) : Ints w' lab v l := by
  refine ⟨h.ex, h.len, h.i64, fun j c hj => ?_⟩
  obtain ⟨b, a, n, cap, h1, h2, h3, h4⟩ := h.row j c hj
  refine ⟨b, a, n, cap, h1, Nat.lt_of_lt_of_le h2 hk.size, h3, ?_⟩
  rw [hk.cell _ h2 (fun hx => by have := hA _ hx; omega)]
  exact h4

theorem res_no {T : TS} {r c t : Int} (h : (T.reserve r c t).1 ≠ 0) : (T.reserve r c t).2 = T := by
  unfold TS.reserve at h ⊢
  by_cases h1 : T.place r c t ≠ 0
  · rw [if_pos h1]
  · rw [if_neg h1] at h ⊢
    by_cases h2 : T.at r t ≠ -1
    · rw [if_pos h2]
    · rw [if_neg h2] at h ⊢
      by_cases h3 : T.hold c t ≠ -1
      · rw [if_pos h3]
      · rw [if_neg h3] at h ⊢
        by_cases h4 : ((T.put r c t).crossed r (t - 1) || (T.put r c t).crossed r t) = true
        · rw [if_pos h4]
        · rw [if_neg h4] at h ⊢
          by_cases h5 : T.cap < (T.put r c t).held
          · rw [if_pos h5]
          · rw [if_neg h5] at h
            exact absurd rfl h
theorem res_ok {T : TS} {r c t : Int} (h : (T.reserve r c t).1 = 0) : T.place r c t = 0 ∧ T.at r t = -1 ∧ T.hold c t = -1 ∧ (T.reserve r c t).2 = T.put r c t ∧ (T.put r c t).held ≤ T.cap ∧ (T.put r c t).crossed r (t - 1) = false ∧ (T.put r c t).crossed r t = false := by
  unfold TS.reserve at h ⊢
  by_cases h1 : T.place r c t ≠ 0
  · rw [if_pos h1] at h; exact absurd h h1
  · rw [if_neg h1] at h ⊢
    by_cases h2 : T.at r t ≠ -1
    · rw [if_pos h2] at h; simp at h
    · rw [if_neg h2] at h ⊢
      by_cases h3 : T.hold c t ≠ -1
      · rw [if_pos h3] at h; simp at h
      · rw [if_neg h3] at h ⊢
        by_cases h4 : ((T.put r c t).crossed r (t - 1) || (T.put r c t).crossed r t) = true
        · rw [if_pos h4] at h; simp at h
        · rw [if_neg h4] at h ⊢
          by_cases h5 : T.cap < (T.put r c t).held
          · rw [if_pos h5] at h; simp at h
          · rw [if_neg h5] at h ⊢
            simp at h4
            exact ⟨by omega, by omega, by omega, rfl, by omega, h4.1, h4.2⟩

def TS.pathGo (T0 : TS) (r s : Int) : Nat → List Int → TS → Int × Nat × TS
  | i, [], T => (0, i, T)
  | i, c :: l, T => if (T.reserve r c (s + i)).1 ≠ 0 then ((T.reserve r c (s + i)).1, i, T0) else T0.pathGo r s (i + 1) l (T.reserve r c (s + i)).2
/-- What 'ReservePath' answers and leaves. -/
def TS.path (T : TS) (r s : Int) (l : List Int) : Int × Nat × TS := T.pathGo r s 0 l T
/-- Behind k reservations. -/
structure Laid (T : TS) (r s : Int) (k : Nat) (Tk : TS) : Prop where
  eq : Tk = { T with tm := Tk.tm }
  out : ∀ a b, ¬ (a = r ∧ s ≤ b ∧ b < s + k) → Tk.tm a b = T.tm a b
  fr : ∀ b, s ≤ b → b < s + k → T.tm r b = none
  held : Tk.held ≤ Tk.cap
  win : k = 0 ∨ ((T.base : Int) ≤ s ∧ s < (T.base : Int) + 256)
theorem Laid.step {T Tk : TS} {r s c : Int} {k : Nat} (h : Laid T r s k Tk) (hm : MBd Tk.tm) (hr : (Tk.reserve r c (s + k)).1 = 0) : Laid T r s (k + 1) (Tk.reserve r c (s + k)).2 := by
  obtain ⟨h1, h2, h3, h4, h5, -, -⟩ := res_ok hr
  rw [h4]
  have hb : Tk.base = T.base := by rw [h.eq]
  obtain ⟨-, -, h6⟩ := place_ok h1
  rw [hb] at h6
  have hn := at_none hm h2
  refine ⟨?_, fun a b hab => ?_, fun b hb1 hb2 => ?_, h5, Or.inr ?_⟩
  · unfold TS.put
    conv => lhs; rw [h.eq]
  · show putM Tk.tm r (s + k) c a b = T.tm a b
    unfold putM
    rw [if_neg (fun e => hab ⟨e.1, by omega, by omega⟩)]
    exact h.out a b (fun e => hab ⟨e.1, e.2.1, by omega⟩)
  · by_cases e : b = s + k
    · rw [e, ← h.out r (s + k) (fun e' => by omega)]; exact hn
    · exact h.fr b hb1 (by omega)
  · rcases h.win with h7 | h7
    · subst h7; simp at h6; exact h6
    · exact h7

def pathPost (lab : Nat → Nat) (M : TM) (X : Int × Nat × TS) (w : World) (e : Ending) (w' : World) : Prop :=
  e = .returned (.tuple #[.int .i64 (X.1), .int .i64 (X.2.1)]) ∧ TAt w' lab M X.2.2 ∧ KeptL lab (fun x => x = 3) w w'
theorem path_any (M : TM) (T : TS) (lab : Nat → Nat) (r s : Int) (v : Value) (l : List Int) (w : World) (h : TAt w lab M T) (hh : T.held ≤ T.cap) (hr : I64 r) (hs : I64 s) (hl : Ints w lab v l) :
    Calls Try.prog 51 #[.pointer (some ⟨M.t, 0, none⟩), .int .i64 (r), .int .i64 (s), v] w (pathPost lab M (T.path r s l) w) := by
  have HH := hid h
  have HI := hid hl
  have hlt := h.bt.lt
  obtain ⟨ao, cap, hv, hcap⟩ := hl.ex
  have hlen := hl.len
  subst hv
  obtain ⟨n, hn⟩ : ∃ n, l.length = n := ⟨_, rfl⟩
  rw [hn] at hcap hlen HI ⊢
  have HN := hid hn
  have HR := hid hr
  have HS := hid hs
  have hbb := h.bd.base
  obtain ⟨res, hres⟩ : ∃ x, T.path r s l = x := ⟨_, rfl⟩
  rw [hres]
  have HRES := hid hres
  have HHC := hid hh
  clear h hl hn hr hs hres hh
  go_enter Try.func51, Try.ntmps51
  go_wp2
  go_loopw [16] (fun x wr => ∃ (k : Nat) (Tk : TS), x = .int .i64 (k) ∧ k ≤ n ∧ TAt wr lab M Tk ∧ Laid T r s k Tk ∧ T.pathGo r s k (l.drop k) Tk = res ∧ KeptL lab (fun x => x = 3) w wr) (fun x _ => n - (intOf x).toNat)
  case atStart => exact ⟨0, T, rfl, Nat.zero_le _, HH.out, ⟨rfl, fun _ _ _ => rfl, fun b h1 h2 => by omega, HHC.out, Or.inl rfl⟩, HRES.out, KeptL.refl _ _ _⟩
  case round =>
    obtain ⟨k, Tk, rfl, hk, hT, hLd, heq, hK⟩ := hrel
    have HT := hid hT
    have HLd := hid hLd
    have HK := hid hK
    have hsz := hK.size
    by_cases hlt2 : k < n
    · have hkl : k < l.length := by rw [HN.out]; exact hlt2
      have hx : l[k]? = some l[k] := List.getElem?_eq_getElem hkl
      have hdr : l.drop k = l[k] :: l.drop (k + 1) := List.drop_eq_getElem_cons hkl
      have hmem : l[k] ∈ l := List.getElem_mem hkl
      generalize l[k] = c at *
      obtain ⟨b, a, n', cap', hv, hbl, hlab, q⟩ := (HI.out.keptL hK (fun x hx => by omega)).row k c hx
      simp only [Value.slice.injEq] at hv
      obtain ⟨rfl, rfl, rfl⟩ := hv
      have ic := HI.out.i64 c hmem
      have isk : I64 (s + k) ∨ k = 0 := by
        rcases hLd.win with h7 | h7
        · exact Or.inr h7
        · exact Or.inl ⟨by omega, by omega⟩
      have isk2 : I64 (s + k) := by
        rcases isk with h7 | h7
        · exact h7
        · subst h7; simpa using HS.out
      have hadd : -9223372036854775808 ≤ s + (k : Int) ∧ s + (k : Int) ≤ 9223372036854775807 := isk2
      have RV := hid (reserve_any M Tk lab r c (s + k) wr hT hLd.held HR.out ic isk2)
      have bk : decide ((k : Int) < n) = true := by simp; omega
      rw [hdr, TS.pathGo] at heq
      by_cases hc : (Tk.reserve r c (s + k)).1 ≠ 0
      · rw [if_pos hc] at heq
        have hno := res_no hc
        rw [hno] at RV
        generalize (Tk.reserve r c (s + k)).1 = code at *
        have b1 : (code != 0) = true := by simp [hc]
        have HE := hid heq
        have hwin : k = 0 ∨ ((T.base : Int) ≤ s ∧ s < (T.base : Int) + 256) := hLd.win
        clear heq hdr hx hT hLd hK isk isk2 hno hc ic
        go_wp2_with (first | (go_at_call 72; refine RV.out.mono ?_; rintro e w5 ⟨rfl, h5, k5⟩))
        have H5 := hid h5
        have K5 := hid k5
        have hlt5 := h5.bt.lt
        have c45 := h5.c4
        have hs5 := k5.size
        clear h5 k5
        go_loopw [13] (fun x wr => ∃ (j : Nat) (f : Int → Int → Option Int), x = .int .i64 (j) ∧ j ≤ k ∧ MAt wr M.m f ∧ (∀ a b, f a b = if a = r ∧ s ≤ b ∧ b < s + j then none else Tk.tm a b) ∧ KeptL lab (fun x => x = 3) w5 wr) (fun x _ => k - (intOf x).toNat)
        case atStart => exact ⟨0, Tk.tm, rfl, Nat.zero_le _, H5.out.bm, fun a b => by rw [if_neg (by omega)], KeptL.refl _ _ _⟩
        case round =>
          obtain ⟨j, f, rfl, hj, hM, hf, hKw⟩ := hrel
          have HM := hid hM
          have HF := hid hf
          have HKw := hid hKw
          have c4r : wr.cell? ⟨M.t, 4, none⟩ = some (.map (some M.m)) := (hKw.cell 4 hlt5 (by rw [HH.out.lt]; omega)).trans c45
          have hszr := hKw.size
          by_cases hjk : j < k
          · have hj2 : -9223372036854775808 ≤ s + (j : Int) ∧ s + (j : Int) ≤ 9223372036854775807 := by omega
            clear hM hf hKw
            go_wp2_with (first | (at_delete; refine wpList_del_tm _ rfl _ _ rfl M.m f r (s + j) rfl HM.out rfl HR.out hj2 ?_; intro w7 hM7 hg7) | go_in)
            go_roundw
            case rel =>
              refine ⟨j + 1, _, by go_num, by omega, hM7, fun a b => ?_, HKw.out.trans (KeptL.of_grown hg7 HH.out.lm)⟩
              unfold delM
              rw [HF.out a b]
              by_cases e1 : a = r ∧ b = s + j
              · rw [if_pos e1, if_pos ⟨e1.1, by omega, by omega⟩]
              · rw [if_neg e1]
                by_cases e2 : a = r ∧ s ≤ b ∧ b < s + j
                · rw [if_pos e2, if_pos ⟨e2.1, e2.2.1, by omega⟩]
                · rw [if_neg e2, if_neg (fun h => by omega)]
            case measure => simp [intOf]; omega
          · have hjk2 : j = k := by omega
            subst hjk2
            have hfe : f = T.tm := by
              funext a b
              rw [hf a b]
              split
              · rename_i e
                rw [e.1, HLd.out.fr b e.2.1 e.2.2]
              · rename_i e
                exact HLd.out.out a b e
            subst hfe
            have hfin : TAt wr lab M T := by
              have h6 : Tk.sp = T.sp := by rw [HLd.out.eq]
              have := H5.out.setMK hKw hM (by rw [h6]; have := HH.out.bd.held; unfold TS.held at this; exact this)
              have h7 : ({ Tk with tm := T.tm } : TS) = T := by rw [HLd.out.eq]
              rw [h7] at this
              exact this
            have HFin := hid hfin
            clear hM hf hKw hfin
            go_wp2
            go_ret2
            rw [← HE.out]
            exact ⟨rfl, HFin.out, (HK.out.trans K5.out).trans HKw.out⟩
      · rw [if_neg hc] at heq
        have hc0 : (Tk.reserve r c (s + k)).1 = 0 := by omega
        have HL2 := hid (hLd.step hT.bm.bd hc0)
        rw [hc0] at RV
        have HE := hid heq
        generalize (Tk.reserve r c (s + k)).2 = T5 at *
        clear heq hdr hx hT hLd hK isk isk2 hc hc0 ic
        go_wp2_with (first | (go_at_call 72; refine RV.out.mono ?_; rintro e w5 ⟨rfl, h5, k5⟩))
        go_roundw
        case rel => exact ⟨k + 1, T5, by go_num, by omega, h5, HL2.out, HE.out, HK.out.trans k5⟩
        case measure => simp [intOf]; omega
    · rw [List.drop_eq_nil_of_le (by rw [HN.out]; omega), TS.pathGo] at heq
      have HE := hid heq
      clear heq hT hLd hK
      go_wp2
      go_ret2
      rw [← HE.out]
      have : k = n := by omega
      subst this
      exact ⟨rfl, HT.out, HK.out⟩
end Go.Proofs.Qxb6500716a
