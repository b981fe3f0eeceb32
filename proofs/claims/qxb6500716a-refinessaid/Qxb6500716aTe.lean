/-
  later, FreeFrom: the walks.
-/
import Derived.Test.Qxb6500716aTd
namespace Go.Proofs.Qxb6500716a
open Go.RowKit Go.Maps
set_option linter.unusedSimpArgs false
set_option linter.unusedVariables false
set_option maxRecDepth 20000
set_option maxHeartbeats 4000000

/-- A timed entry of the robot at or behind the tick. -/
def TS.laterT (T : TS) (r c t : Int) : Prop := ∃ b x, T.tm r b = some x ∧ t ≤ b ∧ (c = -1 ∨ x = c)
def spLater : List Sg → Int → Int → Int → Bool
  | [], _, _, _ => false
  | x :: l, r, c, t => if (x.r : Int) = r ∧ t < (x.u : Int) ∧ (c = -1 ∨ (x.c : Int) = c) then true else spLater l r c t
def exT (p : Nat → Bool) : Nat → Bool
  | 0 => false
  | n + 1 => p n || exT p n
theorem exT_yes {p : Nat → Bool} : ∀ (n b : Nat), b < n → p b = true → exT p n = true
  | 0, b, h, _ => by omega
  | n + 1, b, h, hp => by
    rw [exT]
    by_cases e : b = n
    · subst e; rw [hp]; rfl
    · rw [exT_yes n b (by omega) hp]; simp
theorem exT_ex {p : Nat → Bool} : ∀ (n : Nat), exT p n = true → ∃ b, p b = true
  | 0, h => by cases h
  | n + 1, h => by
    rw [exT] at h
    cases hp : p n with
    | true => exact ⟨n, hp⟩
    | false => rw [hp] at h; exact exT_ex n (by simpa using h)
def TS.lt1 (T : TS) (r c t : Int) (b : Nat) : Bool := match T.tm r b with
  | some x => decide (t ≤ (b : Int)) && (decide (c = -1) || decide (x = c))
  | none => false
def TS.later (T : TS) (r c t : Int) : Bool := exT (T.lt1 r c t) (NTf T.tm) || spLater T.sp r c t
theorem later_no {T : TS} {r c t : Int} (h : ¬ T.laterT r c t) : T.later r c t = spLater T.sp r c t := by
  have h1 : exT (T.lt1 r c t) (NTf T.tm) = false := by
    cases hx : exT (T.lt1 r c t) (NTf T.tm) with
    | false => rfl
    | true =>
      obtain ⟨b, hb⟩ := exT_ex (NTf T.tm) hx
      unfold TS.lt1 at hb
      split at hb
      · rename_i x hx
        simp at hb
        exact absurd ⟨b, x, hx, hb.1, hb.2⟩ h
      · cases hb
  unfold TS.later
  rw [h1]
  rfl
theorem later_yes {T : TS} {r c t : Int} (hB : MBd T.tm) (h : T.laterT r c t) : T.later r c t = true := by
  obtain ⟨b, x, h1, h2, h3⟩ := h
  obtain ⟨h4, h5⟩ := hB.b r b x h1
  obtain ⟨k, rfl⟩ : ∃ k : Nat, b = k := ⟨b.toNat, by omega⟩
  unfold TS.later
  rw [exT_yes (NTf T.tm) k (by rw [NTf_eq]; omega) (by unfold TS.lt1; rw [h1]; simp; exact ⟨h2, h3⟩)]
  rfl

theorem pair_K (key : Value) (kl : Lit) (h : keyOf Try.prog 113 key = some kl) : ∃ x : Int × Int, key = .agg #[.int .i64 (x.1), .int .i64 (x.2)] := by
  obtain ⟨a, b, rfl, -⟩ := key2_inv h
  exact ⟨(a, b), rfl⟩
theorem int_V (v : Value) (y : DataW Unit × List MemPlace) (h : plainElem Try.prog 3 v = some y) : ∃ c : Int, v = .int .i64 (c) := by
  obtain ⟨c, rfl, -⟩ := plainElem_int_inv Try.underlying3 h
  exact ⟨c, rfl⟩

/-- The step of a loop over the table's map. -/
theorem wpList_next_tm (w : World) {ops : Array Oper} {rest : List Oper} {o : Oper} {act : Act} {Q : Exit → Act → World → Prop} (hg : o.guard = none) (it : Operand) (hop : o.op = Op.next it false) (m r n : Nat) (D : DataW Unit) (f : Int → Int → Option Int) (left : Lit → Bool) (cnt : Nat)
    (hit : act.eval it = .pointer (some ⟨r, 0, none⟩)) (h : w.ranges Try.prog 113 (plainElem Try.prog 3) m r n D left cnt) (hMI : Hid (MIs D f))
    (hDone : cnt = 0 → (∀ kl, left kl = false) → wpList Try.prog ops Q rest (act.put o.dst (.tuple #[.bool false])) w)
    (hMore : ∀ (a b x : Int) (w' : World) (cnt' : Nat), I64 a → I64 b → f a b = some x → left (key2 a b) = true → w'.ranges Try.prog 113 (plainElem Try.prog 3) m r n D (fun z => left z && !z.sameKey (key2 a b)) cnt' → cnt' < cnt →
      w.grownBy w' (some r) → w'.heap.size = w.heap.size → (Instr.entry (.pointer (some ⟨r, 0, none⟩))).run Try.prog w' = .ok (.tuple #[.agg #[.int .i64 (a), .int .i64 (b)], .int .i64 (x)]) w' → wpList Try.prog ops Q rest (act.put o.dst (.tuple #[.bool true, .agg #[.int .i64 (a), .int .i64 (b)], .int .i64 (x)])) w') :
    wpList Try.prog ops Q (o :: rest) act w := by
  refine wpList_next_ranges w hg it hop 113 law113 (plainElem Try.prog 3) (fun p : Int × Int => .agg #[.int .i64 (p.1), .int .i64 (p.2)]) (fun c : Int => .int .i64 (c)) pair_K int_V m r n D left cnt hit h hDone ?_
  rintro ⟨a, b⟩ x kl ⟨y, ys⟩ w' cnt' hkey hleft hRv hat hrg1 hlt1 hg1 hs1 hen
  obtain ⟨a', b', e1, ia, ib, rfl⟩ := key2_inv hkey
  simp at e1
  obtain ⟨rfl, rfl⟩ := e1
  obtain ⟨x', e2, e3, -⟩ := plainElem_int_inv Try.underlying3 hRv
  simp at e2 e3
  obtain ⟨rfl, rfl⟩ := e3
  subst e2
  exact hMore a b x w' cnt' ia ib (hMI.some ia ib hat) hleft hrg1 hlt1 hg1 hs1 hen

theorem later_any (M : TM) (T : TS) (lab : Nat → Nat) (r c t : Int) (w : World) (h : TAt w lab M T) :
    Calls Try.prog 75 #[.pointer (some ⟨M.t, 0, none⟩), .int .i64 (r), .int .i64 (c), .int .i64 (t)] w fun e w' => e = .returned (.bool (T.later r c t)) ∧ ∃ z, w' = w.ext z := by
  have HH := hid h
  have c4 := h.c4
  have c5 := h.c5
  have hlt := h.bt.lt
  obtain ⟨ao, cap, hv⟩ := h.bs.val
  have hln := h.ln
  rw [hv] at c5
  have HV := hid hv
  obtain ⟨n, hn⟩ : ∃ n, T.sp.length = n := ⟨_, rfl⟩
  rw [hn] at c5 hln HV
  have HN := hid hn
  obtain ⟨D, hown, hMI⟩ := h.bm
  have HMI := hid hMI
  clear hn hv h hMI
  obtain ⟨res, hres⟩ : ∃ x, T.later r c t = x := ⟨_, rfl⟩
  rw [hres]
  have HR0 := hid hres
  clear hres
  go_enter Try.func75, Try.ntmps75
  go_wp2_with (first | (at_range; refine wpList_range_own _ rfl _ 109 rfl 113 3 law113 Try.underlying109 _ M.m _ D rfl hown ?_; intro w0 hrg0 hg0 hs0) | go_in)
  go_frame
  have hB0 : Below w.heap.size w w0 := ⟨hg0.os, hg0.tape, hg0.output, by omega, fun k hk => hg0.block k hk (by simp)⟩
  have HB0 := hid hB0
  clear hB0
  go_loopw [] (fun wr => ∃ (left : Lit → Bool) (cnt : Nat), wr.ranges Try.prog 113 (plainElem Try.prog 3) M.m w.heap.size (Maps.size D) D left cnt ∧ (∀ b x, T.tm r b = some x → t ≤ b → (c = -1 ∨ x = c) → left (key2 r b) = true) ∧ Below w.heap.size w wr)
    (fun wr => wr.rangeLeft M.m w.heap.size)
  case atStart =>
    refine ⟨_, _, hrg0, fun b x h1 _ _ => ?_, HB0.out⟩
    have i1 := HMI.out.i64 h1
    rw [HMI.out.has r b i1.1 i1.2.1, h1]; rfl
  case round =>
    obtain ⟨left, cnt, hrg, hl, hB⟩ := hrel
    have HL := hid hl
    have HB := hid hB
    have c5' : wr.cell? ⟨M.t, 5, none⟩ = some (.slice ao n cap) := (World.cell?_of_block (hB.block M.t hlt)).trans c5
    have hsz := hB.size
    clear hl hB
    go_wp2_with (first | (at_next; refine wpList_next_tm _ rfl _ rfl M.m w.heap.size _ _ T.tm _ _ rfl hrg HMI ?_ ?_) | go_in)
    · intro hc0 hl0
      have hno : ¬ T.laterT r c t := by
        rintro ⟨b, x, h1, h2, h3⟩
        have := HL.out b x h1 h2 h3
        rw [hl0] at this
        cases this
      have HRES : Hid (spLater T.sp r c t = res) := by rw [← later_no hno]; exact HR0.out
      have HBB := HB
      clear hno hl0 hc0
      go_wp2
      go_loopw [47] (fun x wr => ∃ k : Nat, x = .int .i64 (k) ∧ k ≤ n ∧ spLater (T.sp.drop k) r c t = res ∧ Below w.heap.size w wr) (fun x _ => n - (intOf x).toNat)
      case atStart => exact ⟨0, rfl, Nat.zero_le _, HRES.out, HBB.out⟩
      case round =>
        obtain ⟨k, rfl, hk, heq, hB⟩ := hrel
        have HB := hid hB
        have hsz := hB.size
        by_cases hlt : k < n
        · have hkl : k < T.sp.length := by rw [HN.out]; exact hlt
          have hx : T.sp[k]? = some T.sp[k] := List.getElem?_eq_getElem hkl
          have hdr : T.sp.drop k = T.sp[k] :: T.sp.drop (k + 1) := List.drop_eq_getElem_cons hkl
          generalize T.sp[k] = x at *
          obtain ⟨b, cap', hv, hlc, hbl, q1, q2, q3, q4⟩ := (HH.out.below hB).span k x hx
          rw [HV.out, HN.out] at hv
          simp only [Value.slice.injEq] at hv
          obtain ⟨rfl, -, rfl⟩ := hv
          rw [HN.out] at hlc
          have hbd := HH.out.bd.sp x (List.mem_of_getElem? hx)
          have bk : decide ((k : Int) < n) = true := by simp; omega
          rw [hdr, spLater] at heq
          by_cases e1 : (x.r : Int) = r
          · have d1 : ((x.r : Int) == r) = true := by simp [e1]
            by_cases e2 : t < (x.u : Int)
            · by_cases e3 : c = -1
              · rw [if_pos ⟨e1, e2, Or.inl e3⟩] at heq
                have HE := hid heq
                have d3 : (c == -1) = true := by simp [e3]
                clear hB heq hdr hx e1 e3
                go_wp2
                go_ret
                refine ⟨ret_bool HE.out, Below.is_ext ?_⟩
                refine HB.out.trans (Below.mono ?_ HB.out.size)
                (repeat (first | with_reducible exact Below.rf _ | with_reducible exact World.below_ext _ _ | with_reducible refine Below.ex ?_ _ | with_reducible refine Below.al ?_ _ | with_reducible refine Below.setCell ?_ (by simp) _ | with_reducible refine Below.drew ?_))
              · have d3 : (c == -1) = false := by simp [e3]
                by_cases e4 : (x.c : Int) = c
                · have d4 : ((x.c : Int) == c) = true := by simp [e4]
                  rw [if_pos ⟨e1, e2, Or.inr e4⟩] at heq
                  have HE := hid heq
                  clear hB heq hdr hx e1 e3 e4
                  go_wp2
                  go_ret
                  refine ⟨ret_bool HE.out, Below.is_ext ?_⟩
                  refine HB.out.trans (Below.mono ?_ HB.out.size)
                  (repeat (first | with_reducible exact Below.rf _ | with_reducible exact World.below_ext _ _ | with_reducible refine Below.ex ?_ _ | with_reducible refine Below.al ?_ _ | with_reducible refine Below.setCell ?_ (by simp) _ | with_reducible refine Below.drew ?_))
                · have d4 : ((x.c : Int) == c) = false := by simp [e4]
                  rw [if_neg (fun h => by rcases h.2.2 with h | h; exact e3 h; exact e4 h)] at heq
                  have HE := hid heq
                  clear hB heq hdr hx e1 e3 e4
                  go_wp2
                  go_roundw
                  case rel =>
                    refine ⟨k + 1, by go_num, by omega, HE.out, ?_⟩
                    refine HB.out.trans (Below.mono ?_ HB.out.size)
                    (repeat (first | with_reducible exact Below.rf _ | with_reducible exact World.below_ext _ _ | with_reducible refine Below.ex ?_ _ | with_reducible refine Below.al ?_ _ | with_reducible refine Below.setCell ?_ (by simp) _ | with_reducible refine Below.drew ?_))
                  case measure => simp [intOf]; omega
            · rw [if_neg (fun h => e2 h.2.1)] at heq
              have HE := hid heq
              clear hB heq hdr hx e1
              go_wp2
              go_roundw
              case rel =>
                refine ⟨k + 1, by go_num, by omega, HE.out, ?_⟩
                refine HB.out.trans (Below.mono ?_ HB.out.size)
                (repeat (first | with_reducible exact Below.rf _ | with_reducible exact World.below_ext _ _ | with_reducible refine Below.ex ?_ _ | with_reducible refine Below.al ?_ _ | with_reducible refine Below.setCell ?_ (by simp) _ | with_reducible refine Below.drew ?_))
              case measure => simp [intOf]; omega
          · rw [if_neg (fun h => e1 h.1)] at heq
            have HE := hid heq
            have d1 : ((x.r : Int) == r) = false := by simp [e1]
            clear hB heq hdr hx e1
            go_wp2
            go_roundw
            case rel =>
              refine ⟨k + 1, by go_num, by omega, HE.out, ?_⟩
              refine HB.out.trans (Below.mono ?_ HB.out.size)
              (repeat (first | with_reducible exact Below.rf _ | with_reducible exact World.below_ext _ _ | with_reducible refine Below.ex ?_ _ | with_reducible refine Below.al ?_ _ | with_reducible refine Below.setCell ?_ (by simp) _ | with_reducible refine Below.drew ?_))
            case measure => simp [intOf]; omega
        · rw [List.drop_eq_nil_of_le (by rw [HN.out]; omega)] at heq
          have HE2 := hid heq
          clear hB heq
          go_wp2
          go_ret
          exact ⟨ret_bool HE2.out, HB.out.is_ext⟩
    · intro a b x w1 cnt1 ia ib htm hleft hrg1 hlt1 hg1 hs1 hen
      have HI := hid (And.intro ia ib)
      have hB1 : Below w.heap.size w w1 := HB.out.grown hg1 HB.out.size (fun k hk => by cases hk; exact Nat.le_refl _)
      have HB1 := hid hB1
      have HTM := hid htm
      clear hB1 hleft htm ia ib hg1
      by_cases e1 : a = r
      · have d1 : (a == r) = true := by simp [e1]
        by_cases e2 : t ≤ b
        · by_cases e3 : c = -1
          · have HRES : Hid (res = true) := HR0.out.symm.trans (later_yes HH.out.bm.bd ⟨b, x, by rw [← e1]; exact HTM.out, e2, Or.inl e3⟩)
            have d3 : (c == -1) = true := by simp [e3]
            clear e1 e3
            go_wp2
            go_ret
            refine ⟨ret_bool HRES.out.symm, Below.is_ext ?_⟩
            exact HB1.out.al _
          · have d3 : (c == -1) = false := by simp [e3]
            by_cases e4 : x = c
            · have HRES : Hid (res = true) := HR0.out.symm.trans (later_yes HH.out.bm.bd ⟨b, x, by rw [← e1]; exact HTM.out, e2, Or.inr e4⟩)
              have d4 : (x == c) = true := by simp [e4]
              clear e1 e3 e4
              go_wp2
              go_ret
              refine ⟨ret_bool HRES.out.symm, Below.is_ext ?_⟩
              exact HB1.out.al _
            · have HNO : Hid (∀ {b'' : Int}, r = a ∧ b'' = b → ∀ x', T.tm r b'' = some x' → t ≤ b'' → (c = -1 ∨ x' = c) → False) := by
                rintro b'' ⟨h1, h2⟩ x' h3 h4 h5
                rw [h1, h2, HTM.out] at h3
                simp at h3
                rcases h5 with h5 | h5
                · exact e3 h5
                · exact e4 (h3.trans h5)
              have d4 : (x == c) = false := by simp [e4]
              clear e1 e3 e4
              go_wp2
              go_roundw
              case rel =>
                refine ⟨_, cnt1, hrg1.kept (World.grownBy_alloc _ _ none) (by simp) (by simp), fun b' x' h1 h2 h3 => ?_, HB1.out.al _⟩
                have h4 := HL.out b' x' h1 h2 h3
                have i1 := HMI.out.i64 h1
                rw [h4, Maps.sameKey_ne (fun e => HNO.out (key2_inj i1.1 i1.2.1 HI.out.1 HI.out.2 e) x' h1 h2 h3)]
                rfl
              case measure => rw [(hrg1.kept (World.grownBy_alloc _ _ none) (by simp) (by simp)).left_eq, hrg.left_eq]; omega
        · have HNO : Hid (∀ {b'' : Int}, r = a ∧ b'' = b → ∀ x', T.tm r b'' = some x' → t ≤ b'' → (c = -1 ∨ x' = c) → False) := by
            rintro b'' ⟨h1, h2⟩ x' h3 h4 h5
            omega
          clear e1
          go_wp2
          go_roundw
          case rel =>
            refine ⟨_, cnt1, hrg1.kept (World.grownBy_alloc _ _ none) (by simp) (by simp), fun b' x' h1 h2 h3 => ?_, HB1.out.al _⟩
            have h4 := HL.out b' x' h1 h2 h3
            have i1 := HMI.out.i64 h1
            rw [h4, Maps.sameKey_ne (fun e => HNO.out (key2_inj i1.1 i1.2.1 HI.out.1 HI.out.2 e) x' h1 h2 h3)]
            rfl
          case measure => rw [(hrg1.kept (World.grownBy_alloc _ _ none) (by simp) (by simp)).left_eq, hrg.left_eq]; omega
      · have HNO : Hid (∀ {b'' : Int}, r = a ∧ b'' = b → ∀ x', T.tm r b'' = some x' → t ≤ b'' → (c = -1 ∨ x' = c) → False) := by
          rintro b'' ⟨h1, h2⟩ x' h3 h4 h5
          exact e1 h1.symm
        have d1 : (a == r) = false := by simp [e1]
        clear e1
        go_wp2
        go_roundw
        case rel =>
          refine ⟨_, cnt1, hrg1.kept (World.grownBy_alloc _ _ none) (by simp) (by simp), fun b' x' h1 h2 h3 => ?_, HB1.out.al _⟩
          have h4 := HL.out b' x' h1 h2 h3
          have i1 := HMI.out.i64 h1
          rw [h4, Maps.sameKey_ne (fun e => HNO.out (key2_inj i1.1 i1.2.1 HI.out.1 HI.out.2 e) x' h1 h2 h3)]
          rfl
        case measure => rw [(hrg1.kept (World.grownBy_alloc _ _ none) (by simp) (by simp)).left_eq, hrg.left_eq]; omega
end Go.Proofs.Qxb6500716a
