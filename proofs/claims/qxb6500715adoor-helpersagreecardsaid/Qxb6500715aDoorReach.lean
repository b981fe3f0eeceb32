/-
  reach, nothing barred: the walk.
-/
import Derived.Test.Qxb6500715aDoorSet
namespace Go.Proofs.Qxb6500715aDoor
open Go.RowKit Go.Maps
set_option linter.unusedSimpArgs false
set_option linter.unusedVariables false

/-- The search from s: acc is seen, T waits, of cur's neighbours the first t are looked at; bar: what is not to be entered. -/
structure Dfs (F : FP) (bar : Nat → Bool) (s : Nat) (acc T : List Nat) (cur : Nat) (t : Nat) : Prop where
  nd : acc.Nodup
  lt : ∀ x, x ∈ acc → x < F.N
  s0 : s ∈ acc
  nb : ∀ x, x ∈ acc → x ≠ s → bar x = false
  sub : ∀ x, x ∈ T → x ∈ acc
  tnd : T.Nodup
  cl : ∀ c b, c ∈ acc → c ∉ T → c ≠ cur → b ∈ F.adj c → bar b = false → b ∈ acc
  pt : ∀ (j b : Nat), j < t → (F.adj cur)[j]? = some b → bar b = false → b ∈ acc

section
variable {F : FP} {bar : Nat → Bool} {s : Nat} {acc T : List Nat} {cur t : Nat}
theorem Dfs.len (h : Dfs F bar s acc T cur t) : acc.length ≤ F.N := nodup_le _ _ h.nd h.lt
/-- Between two cells. -/
structure DfsO (F : FP) (bar : Nat → Bool) (s : Nat) (acc T : List Nat) : Prop where
  nd : acc.Nodup
  lt : ∀ x, x ∈ acc → x < F.N
  s0 : s ∈ acc
  nb : ∀ x, x ∈ acc → x ≠ s → bar x = false
  sub : ∀ x, x ∈ T → x ∈ acc
  tnd : T.Nodup
  cl : ∀ c b, c ∈ acc → c ∉ T → b ∈ F.adj c → bar b = false → b ∈ acc
theorem DfsO.len (h : DfsO F bar s acc T) : acc.length ≤ F.N := nodup_le _ _ h.nd h.lt
theorem DfsO.start (hs : s < F.N) : DfsO F bar s [s] [s] :=
  ⟨by simp, by simpa using hs, by simp, fun x hx hne => by simp at hx; exact absurd hx hne, fun x hx => hx, by simp, fun c b hc hT => by simp at hc hT; exact absurd hc hT⟩
theorem DfsO.pop {c : Nat} (h : DfsO F bar s acc (T ++ [c])) : Dfs F bar s acc T c 0 :=
  ⟨h.nd, h.lt, h.s0, h.nb, fun x hx => h.sub x (by simp [hx]), (List.nodup_append.1 h.tnd).1, fun x b hx hT hne hb hbar => h.cl x b hx (by simp [hT, hne]) hb hbar, fun j b hj => by omega⟩
theorem Dfs.done (h : Dfs F bar s acc T cur t) (ht : (F.adj cur).length ≤ t) : DfsO F bar s acc T := by
  refine ⟨h.nd, h.lt, h.s0, h.nb, h.sub, h.tnd, fun c b hc hT hb hbar => ?_⟩
  by_cases hxc : c = cur
  · subst hxc
    obtain ⟨i, hi, he⟩ := List.getElem_of_mem hb
    exact h.pt i b (by omega) (by rw [List.getElem?_eq_getElem hi, he]) hbar
  · exact h.cl c b hc hT hxc hb hbar
theorem Dfs.skip {b : Nat} (h : Dfs F bar s acc T cur t) (hb : (F.adj cur)[t]? = some b) (hm : b ∈ acc ∨ bar b = true) : Dfs F bar s acc T cur (t + 1) := by
  refine { h with pt := fun j b' hj hb' hbar => ?_ }
  by_cases hjt : j = t
  · subst hjt
    rw [hb] at hb'
    obtain rfl := Option.some.inj hb'
    rcases hm with hm | hm
    · exact hm
    · rw [hm] at hbar; cases hbar
  · exact h.pt j b' (by omega) hb' hbar
theorem Dfs.push {b : Nat} (h : Dfs F bar s acc T cur t) (hb : (F.adj cur)[t]? = some b) (hbN : b < F.N) (hm : b ∉ acc) (hbar : bar b = false) : Dfs F bar s (acc ++ [b]) (T ++ [b]) cur (t + 1) := by
  refine ⟨?_, fun x hx => ?_, List.mem_append_left _ h.s0, fun x hx hne => ?_, fun x hx => ?_, ?_, fun c d hc hT hne hd hb2 => ?_, fun j d hj hd hb2 => ?_⟩
  · rw [List.nodup_append]
    exact ⟨h.nd, by simp, fun x hx y hy e => by simp at hy; subst hy e; exact hm hx⟩
  · rcases List.mem_append.1 hx with h1 | h1
    · exact h.lt x h1
    · simp at h1; subst h1; exact hbN
  · rcases List.mem_append.1 hx with h1 | h1
    · exact h.nb x h1 hne
    · simp at h1; subst h1; exact hbar
  · rcases List.mem_append.1 hx with h1 | h1
    · exact List.mem_append_left _ (h.sub x h1)
    · exact List.mem_append_right _ h1
  · rw [List.nodup_append]
    exact ⟨h.tnd, by simp, fun x hx y hy e => by simp at hy; subst hy e; exact hm (h.sub x hx)⟩
  · rcases List.mem_append.1 hc with h1 | h1
    · exact List.mem_append_left _ (h.cl c d h1 (fun h2 => hT (List.mem_append_left _ h2)) hne hd hb2)
    · exact absurd (List.mem_append_right _ h1) hT
  · by_cases hjt : j = t
    · subst hjt
      rw [hb] at hd
      obtain rfl := Option.some.inj hd
      simp
    · exact List.mem_append_left _ (h.pt j d (by omega) hd hb2)
end

/-- What 'reach' hands back. -/
def reachPost (F : FP) (bar : Nat → Bool) (s : Nat) (w : World) (e : Ending) (w' : World) : Prop :=
  ∃ (acc : List Nat) (B : Nat), e = .returned (.map (some B)) ∧ acc.Nodup ∧ (∀ x, x ∈ acc → x < F.N) ∧ s ∈ acc ∧ (∀ x, x ∈ acc → x ≠ s → bar x = false) ∧ (∀ c b, c ∈ acc → b ∈ F.adj c → bar b = false → b ∈ acc) ∧ SetAt w' B acc ∧ ∃ z, w' = w.ext z

def idRow (T : List Nat) : List Value := T.map fun (c : Nat) => .int .i64 (c)

theorem own_pop {w : World} {base : Nat} {e : TypeId} {g n cap : Nat} {xs : List Value} {x : Value} (h : w.ownsRow base e 1 (.slice (some ⟨g, 0, none⟩) (n + 1) cap) (n + 1) (xs ++ [x])) : w.ownsRow base e 1 (.slice (some ⟨g, 0, none⟩) n cap) n xs := by
  obtain ⟨h1, h2⟩ := h
  have hl : xs.length = n := by simp at h1; omega
  refine ⟨by omega, Or.inr ?_⟩
  rcases h2 with ⟨h2, _⟩ | ⟨g', cap', cur, hv, hg, hh, hn, hm, hs, ht⟩
  · simp at h2
  · simp only [Value.slice.injEq, Option.some.injEq, Addr.mk.injEq, and_true, true_and] at hv
    obtain ⟨rfl, rfl⟩ := hv
    refine ⟨g, cap, cur, rfl, hg, hh, by omega, hm, hs, ?_⟩
    have := congrArg (List.take n) ht
    rw [List.take_take, show min n ((n + 1) * 1) = n by omega, List.take_append_of_le_length (by omega), List.take_of_length_le (l := xs) (by omega)] at this
    rw [Nat.mul_one]; exact this

theorem slice_hi (b n len cap : Nat) (h : n ≤ cap) (h0 : 0 < cap) (w : World) : (Instr.sliceAt 31 (.slice (some ⟨b, 0, none⟩) len cap) none (some (.int .i64 (n))) none).run Tryd.prog w = .ok (.slice (some ⟨b, 0, none⟩) n cap) w := by
  have he : (Tryd.prog).elem 31 = 28 := by simp [Program.elem, Tryd.underlying31]
  have ht' : (Tryd.prog).underlying 31 = some (.slice ((Tryd.prog).elem 31)) := by rw [he]; exact Tryd.underlying31
  rw [run_sliceAt_slice _ _ _ _ _ _ ht', run_slice_h _ _ _ _ _ ht' _ _ (by omega) (by omega)]
  have hsz : (sizeOf ((Tryd.prog).elem 31)).run Tryd.prog w = .ok 1 w := by rw [he]; kernel_rfl
  rw [hsz]
  simp only [Result.andThen, sliced, Int.toNat_natCast]
  rw [if_neg (by omega)]
  simp [Addr.add_lit]

def slLen : Value → Nat
  | .slice _ n _ => n
  | _ => 0

theorem func_nil (w : World) : (binOp .eql 55 .nilFunc .nilFunc).run Tryd.prog w = .ok (.bool true) w := by kernel_rfl

/-- The walk's memory. -/
structure RcAt (w wr : World) (acc T : List Nat) (v : Value) : Prop where
  st : SetAt wr w.heap.size acc
  own : wr.ownsRow (w.heap.size + 1) 28 1 v T.length (idRow T)
  below : Below w.heap.size w wr
theorem RcAt.ext {w wr w' : World} {acc T : List Nat} {v : Value} (h : RcAt w wr acc T v) (hb : Below wr.heap.size wr w') : RcAt w w' acc T v := by
  refine ⟨h.st.below hb, ?_, h.below.trans (hb.mono h.below.size)⟩
  obtain ⟨h1, h2⟩ := h.own
  refine ⟨h1, ?_⟩
  rcases h2 with h2 | ⟨g, cap, cur, hv, hg, hh, r⟩
  · exact Or.inl h2
  · exact Or.inr ⟨g, cap, cur, hv, hg, by rw [hb.block g (Array.getElem?_eq_some_iff.1 hh).1]; exact hh, r⟩
/-- A cell is marked. -/
theorem RcAt.mark {w wr w' : World} {acc T : List Nat} {v : Value} {c : Nat} (h : RcAt w wr acc T v) (h1 : SetAt w' w.heap.size (acc ++ [c])) (hg : wr.grownBy w' (some w.heap.size)) : RcAt w w' (acc ++ [c]) T v :=
  ⟨h1, h.own.kept hg (by
    cases hv : v.ownBlock with
    | none => exact Or.inl rfl
    | some k => right; intro e; have := (h.own.lt k hv).1; simp at e; omega), h.below.grown hg h.below.size (fun k hk => by cases hk; exact Nat.le_refl _)⟩

set_option maxRecDepth 20000 in
set_option maxHeartbeats 2000000 in
theorem reach_any (F : FP) (sb cb s : Nat) (w : World) (h : FlN w F) (hl : Lnk w F sb cb) (hN : F.N ≤ 384) (hs : s < F.N) :
    Calls Tryd.prog 16 #[.pointer (some ⟨F.fb, 0, none⟩), .int .i64 (s), .nilFunc] w (reachPost F (fun _ => false) s w) := by
  have HH := hid h
  have HL := hid hl
  have hpl := h.plain
  have hmm := @run_makeMap Tryd.prog
  have hfn := func_nil
  have hup := (SetAt.made w).update s (by omega) (by simp)
  obtain ⟨w1, hr1, hst1, hg1⟩ := hup
  have hB1 : Below w.heap.size w w1 := ((Below.rf w).al _).grown hg1 (by simp) (fun k hk => by cases hk; exact Nat.le_refl _)
  have hs1 : w.heap.size < w1.heap.size := hst1.lt
  have HST := hid hst1
  have HB1 := hid hB1
  clear h hl hst1 hg1 hB1
  go_enter Tryd.func16, Tryd.ntmps16
  go_wp2
  go_loopw [8] (fun v wr => ∃ (acc T : List Nat) (ao : Option Addr) (cp : Nat), v = .slice ao T.length cp ∧ DfsO F (fun _ => false) s acc T ∧ RcAt w wr acc T (.slice ao T.length cp)) (fun v wr => 2 * (F.N - mapSz wr w.heap.size) + slLen v)
  case atStart =>
    refine ⟨[s], [s], _, _, rfl, DfsO.start hs, ⟨HST.out.below ((Below.rf w1).al _), ?_, HB1.out.trans (Below.alloc (Below.refl _ w1) HB1.out.size _)⟩⟩
    exact World.ownsRow_lit w1 #[.int .i64 (s)] 1 (by omega) (by unfold maxLen; omega) (by rfl)
  case round =>
    obtain ⟨acc, T, ao, cp, rfl, hD, hR⟩ := hrel
    have hlen := hD.len
    have hsz := hR.below.size
    have HB := hid hR.below
    have hFl : FlN wr F := HH.out.below hR.below
    have hLk : Lnk wr F sb cb := HL.out.below hR.below
    have hacc := hR.st.sz hD.nd
    have HD := hid hD
    have HR := hid hR
    have HA := hid hacc
    clear hr1 hmm hacc
    rcases List.eq_nil_or_concat T with rfl | ⟨T', c, rfl⟩
    · clear hD hR
      go_wp2
      go_ret
      exact ⟨acc, w.heap.size, rfl, HD.out.nd, HD.out.lt, HD.out.s0, HD.out.nb, fun c b hc hb hbar => HD.out.cl c b hc (by simp) hb hbar, HR.out.st, HB.out.is_ext⟩
    · rw [List.concat_eq_append] at *
      obtain ⟨g, cap, hv, hcap, hg1, hg2, hcells⟩ := ownsRow_cells hR.own (by simp)
      simp only [Value.slice.injEq] at hv
      obtain ⟨rfl, -, rfl⟩ := hv
      obtain ⟨n, hn⟩ : ∃ n, T'.length = n := ⟨_, rfl⟩
      have hn1 : (T' ++ [c]).length = n + 1 := by simp [hn]
      rw [hn1] at hcap ⊢
      have ct : wr.cell? ⟨g, n, none⟩ = some (.int .i64 (c)) := hcells n _ (by rw [idRow, List.map_append, List.getElem?_append_right (by simp [hn])]; simp [hn])
      have hsl := slice_hi g n (n + 1) cp (by omega) (by omega)
      have hcN : c < F.N := hD.lt c (hD.sub c (by simp))
      have hR2 : RcAt w wr acc T' (.slice (some ⟨g, 0, none⟩) T'.length cp) := ⟨hR.st, by
        have := hR.own
        rw [hn1, idRow, List.map_append] at this
        rw [hn]; exact own_pop this, hR.below⟩
      have hD2 := hD.pop
      have hnb : n < F.N := by
        have := nodup_le F.N (T' ++ [c]) hD.tnd (fun x hx => hD.lt x (hD.sub x hx))
        omega
      obtain ⟨la, hla⟩ : ∃ la, (F.adj c).length = la := ⟨_, rfl⟩
      obtain ⟨no, hno⟩ : ∃ no, F.no c = no := ⟨_, rfl⟩
      have HLA := hid hla
      have HNO := hid hno
      have hla4 : la ≤ 4 := by rw [← hla]; exact F.adjTo_len c 4
      have HR2 := hid hR2
      have HD2 := hid hD2
      have HN := hid hn
      have bh : decide ((n : Int) + 1 > 0) = true := decide_eq_true (by omega)
      clear hla hno hD hR hR2 hD2 hcells hn hn1
      go_wp2_with (go_at_call 15; refine (neighbors_is F sb cb c la no _ hFl hLk hN hcN HLA.out HNO.out).mono ?_; rintro e w' ⟨rfl, z1, rfl⟩)
      obtain ⟨a0, ha0⟩ : ∃ a0, acc.length = a0 := ⟨_, rfl⟩
      have HA0 := hid (HA.out.trans ha0)
      have ha0N : a0 ≤ F.N := by omega
      go_loopw [8, 35] (fun v x wr => ∃ (t : Nat) (acc T : List Nat) (ao : Option Addr) (cp : Nat), v = .slice ao T.length cp ∧ x = .int .i64 (t) ∧ t ≤ la ∧ (T.length + a0 = n + acc.length ∧ a0 ≤ acc.length) ∧ Dfs F (fun _ => false) s acc T c t ∧ RcAt w wr acc T (.slice ao T.length cp)) (fun _ x _ => la - (intOf x).toNat)
      case atStart => exact ⟨0, acc, T', _, _, by rw [HN.out], rfl, Nat.zero_le _, ⟨by rw [HN.out, ha0], by omega⟩, HD2.out, HR2.out.ext (World.below_ext _ _)⟩
      case round =>
        clear HR2 HD2 HR HD HB hFl hLk ct hg2 hg1 hlen hsz HA ha0
        obtain ⟨t, acc2, T2, ao2, cp2, rfl, rfl, ht, hcount, hD, hR⟩ := hrel
        have hlen := hD.len
        have htlen : T2.length ≤ F.N := nodup_le F.N T2 hD.tnd (fun x hx => hD.lt x (hD.sub x hx))
        have hsz := hR.below.size
        have hLk : Lnk wr F sb cb := HL.out.below hR.below
        have hms := hR.st.sz hD.nd
        have HB := hid hR.below
        have HD := hid hD
        have HR := hid hR
        have HMS := hid hms
        obtain ⟨m, hm⟩ : ∃ m, T2.length = m := ⟨_, rfl⟩
        rw [hm] at hcount htlen ⊢
        have HM := hid hm
        by_cases hlt : t < la
        · have hta : t < (F.adj c).length := by rw [HLA.out]; exact hlt
          have cn := hLk.nb hcN hta
          have hbm : (F.adj c)[t] ∈ F.adj c := List.getElem_mem hta
          have hbt : (F.adj c)[t]? = some (F.adj c)[t] := List.getElem?_eq_getElem hta
          rw [HNO.out] at cn
          generalize (F.adj c)[t] = b at *
          have hbN := adj_lt hpl hcN hbm
          have hlk := hR.st.lookup b (by omega)
          have hcbs := hLk.lt.2
          have bt : decide ((t : Int) < la) = true := by simp; omega
          have HBT := hid hbt
          by_cases hmem : b ∈ acc2
          · rw [decide_eq_true hmem] at hlk
            clear hD hR hms hm hbt hbm hLk
            go_wp2
            go_roundw
            case rel => exact ⟨t + 1, acc2, T2, ao2, cp2, by rw [HM.out], by go_num, by omega, by rw [HM.out]; exact hcount, HD.out.skip HBT.out (Or.inl hmem), HR.out⟩
            case measure => simp [intOf]; omega
          · rw [decide_eq_false hmem] at hlk
            obtain ⟨w2, hr2, hst2, hg2⟩ := hR.st.update b (by omega) (by omega)
            have hs2 := hg2.size
            have hR3 := hR.mark hst2 hg2
            have HR3 := hid hR3
            have HP := hid (hD.push hbt hbN hmem rfl)
            clear hD hR hms hm hbt hbm hLk hst2 hg2 hR3
            go_wp2_with (at_builtin; refine hold ?_)
            show wpList _ _ _ _ _ _
            refine wp_app rfl _ _ 31 rfl (w.heap.size + 1) 28 (.int .i64 0) 1 8 Tryd.underlying31 (by kernel_rfl) rfl (by decide) _ m (idRow T2) rfl (ownsRow_alloc (by have := HR3.out.own; rw [HM.out] at this; exact this) _) _ 0 1 1 [.int .i64 (b)] rfl rfl ?_ (by simp [Value.oneCell']) (by omega) (by omega) ?_ ?_
            · intro jj u hjj; simp [go_sem, ↓IntWalk.iteOmega]; simpa using hjj
            · have := HR3.out.st.lt; simp; omega
            intro v3 w3 hown3 hb3
            have hB3 : Below (w.heap.size + 1) w2 w3 := Below.trans (Below.alloc (Below.refl _ w2) (by have := HR3.out.st.lt; omega) _) hb3
            obtain ⟨gb3, cp3, rfl, -, -, -, -⟩ := ownsRow_cells hown3 (by omega)
            have hR4 : RcAt w w3 (acc2 ++ [b]) (T2 ++ [b]) (.slice (some ⟨gb3, 0, none⟩) (T2 ++ [b]).length cp3) := by
              refine ⟨?_, ?_, HR3.out.below.trans (hB3.mono (by omega))⟩
              · obtain ⟨nn, h1, es, clock, h2, h3⟩ := HR3.out.st
                exact ⟨nn, h1, es, clock, (hB3.block _ (by omega)).trans h2, h3⟩
              · rw [List.length_append, HM.out]; unfold idRow; rw [List.map_append]; exact hown3
            have HR4 := hid hR4
            clear hown3 hb3 hB3 hR4
            go_wp2
            go_roundw
            case rel => exact ⟨t + 1, acc2 ++ [b], T2 ++ [b], _, _, by rw [List.length_append, HM.out]; rfl, by go_num, by omega, ⟨by simp [HM.out]; omega, by simp; omega⟩, HP.out, HR4.out⟩
            case measure => simp [intOf]; omega
        · clear hD hR hms hm hLk
          go_wp2
          go_roundw
          case rel => exact ⟨acc2, T2, ao2, cp2, by rw [HM.out], HD.out.done (by rw [HLA.out]; omega), HR.out⟩
          case measure =>
            rw [HMS.out, HA0.out]
            simp only [slLen]
            omega
end Go.Proofs.Qxb6500715aDoor
