/-
  floorm.New: the walk.
-/
import Derived.Test.Qxb6500716aFy
namespace Go.Proofs.Qxb6500716a
open Go.RowKit Go.Maps
set_option linter.unusedSimpArgs false
set_option linter.unusedVariables false
set_option maxRecDepth 20000
set_option maxHeartbeats 4000000

def newFPost (F : Option FS) (w : World) (e : Ending) (w' : World) : Prop :=
  Below w.heap.size w w' ∧ match F with
    | none => e = .returned (.pointer none)
    | some F => ∃ fb, e = .returned (.pointer (some ⟨fb, 0, none⟩)) ∧ w.heap.size ≤ fb ∧ ∀ lab : Nat → Nat, (∀ k, w.heap.size ≤ k → lab k = 0) → FAt w' lab fb F
def colS (W H k : Nat) (r c : Int) : Prop := 0 ≤ c ∧ c < (k : Int) ∧ (r = 1 ∨ r = (H : Int) - 2)
def aisS (P W H a row : Nat) (r c : Int) : Prop := (0 ≤ c ∧ c < (W : Int) ∧ (r = 1 ∨ r = (H : Int) - 2)) ∨ (2 ≤ r ∧ r < (H : Int) - 2 ∧ ∃ x : Nat, x < a ∧ c = 1 + (x : Int) * (P : Int)) ∨ (2 ≤ r ∧ r < (row : Int) ∧ c = 1 + (a : Int) * (P : Int))
theorem aisS_put (P W H a row : Nat) (h2 : 2 ≤ row) (c d : Int) : aisS P W H a (row + 1) c d ↔ (c = (row : Int) ∧ d = 1 + (a : Int) * (P : Int)) ∨ aisS P W H a row c d := by
  unfold aisS
  constructor
  · rintro (h | h | h)
    · exact Or.inr (Or.inl h)
    · exact Or.inr (Or.inr (Or.inl h))
    · by_cases e : c = (row : Int)
      · exact Or.inl ⟨e, h.2.2⟩
      · exact Or.inr (Or.inr (Or.inr ⟨h.1, by omega, h.2.2⟩))
  · rintro (h | h | h | h)
    · exact Or.inr (Or.inr ⟨by omega, by omega, h.2⟩)
    · exact Or.inl h
    · exact Or.inr (Or.inl h)
    · exact Or.inr (Or.inr ⟨h.1, by omega, h.2.2⟩)
theorem aisS_next (P W H a : Nat) (hH : 5 ≤ H) (c d : Int) : aisS P W H a (H - 2) c d ↔ aisS P W H (a + 1) 2 c d := by
  unfold aisS
  constructor
  · rintro (h | ⟨h1, h2, x, h3, h4⟩ | h)
    · exact Or.inl h
    · exact Or.inr (Or.inl ⟨h1, h2, x, by omega, h4⟩)
    · exact Or.inr (Or.inl ⟨h.1, by omega, a, by omega, h.2.2⟩)
  · rintro (h | ⟨h1, h2, x, h3, h4⟩ | h)
    · exact Or.inl h
    · by_cases e : x = a
      · subst e; exact Or.inr (Or.inr ⟨h1, by omega, h4⟩)
      · exact Or.inr (Or.inl ⟨h1, h2, x, by omega, h4⟩)
    · omega
theorem pS_congr {S S' : Int → Int → Prop} (h : ∀ c d, S c d ↔ S' c d) (kl : Lit) : pS S kl ↔ pS S' kl := by
  constructor
  · rintro ⟨a, b, h1, h2, h3, h4⟩; exact ⟨a, b, h1, h2, h3, (h a b).1 h4⟩
  · rintro ⟨a, b, h1, h2, h3, h4⟩; exact ⟨a, b, h1, h2, h3, (h a b).2 h4⟩

/-- What the two 'make's leave. -/
def newFR (N fb : Nat) (lb : Nat → Nat) (w : World) (a a' : Act) (w3 : World) : Prop :=
  ∃ nb db, w.heap.size ≤ nb ∧ w.heap.size ≤ db ∧ nb ≠ db ∧ Blk w3 nb N (fun _ => .slice none 0 0) ∧ Blk w3 db N (fun _ => .slice none 0 0) ∧ KeptL lb (fun x => x = 5) w w3 ∧
    (∀ c0 c1 c2 c3, Blk w fb 4 (fc c0 c1 c2 c3) → Blk w3 fb 4 (fc c0 c1 (.slice (some ⟨nb, 0, none⟩) N N) (.slice (some ⟨db, 0, none⟩) N N))) ∧
    a' = (((((((((a.put (some 213) (.pointer (some ⟨fb, 0, none⟩))).put (some 214) (.pointer (some ⟨fb, 0, none⟩))).put (some 215) (.int .i64 (N))).put (some 216) (.slice (some ⟨nb, 0, none⟩) N N)).put (some 217) (.int .i64 (N))).put (some 218) (.slice (some ⟨db, 0, none⟩) N N)).put (some 219) (.pointer (some ⟨fb, 0, none⟩))).put (some 220) (.pointer (some ⟨fb, 2, none⟩))).put (some 221) (.pointer (some ⟨fb, 0, none⟩))).put (some 222) (.pointer (some ⟨fb, 3, none⟩))
set_option maxHeartbeats 400000000 in
theorem new_any (A S P : Nat) (lab : Nat → Nat) (v : Value) (l : List Int) (w : World) (hA : 1 ≤ A ∧ A ≤ 8) (hS : 1 ≤ S ∧ S ≤ 12) (hP : 2 ≤ P ∧ P ≤ 3) (hl : 1 ≤ l.length ∧ l.length ≤ 6) (hI : Ints w lab v l) (W H : Nat) (hW : ((A : Int) - 1) * (P : Int) + 3 = W) (hH : S + 4 = H) :
    Calls Try.prog 46 #[.int .i64 (A), .int .i64 (S), .int .i64 (P), v] w (newFPost ((bayL A P W H l []).map (FS.of A P W H)) w) := by
  obtain ⟨ao, cap, rfl, hcap⟩ := hI.ex
  have HI := hid hI
  obtain ⟨n, hn⟩ : ∃ n, l.length = n := ⟨_, rfl⟩
  rw [hn] at hcap HI hl ⊢
  have HN := hid hn
  have hmul : 0 ≤ ((A : Int) - 1) * (P : Int) ∧ ((A : Int) - 1) * (P : Int) ≤ 21 := by
    rcases (by omega : P = 2 ∨ P = 3) with rfl | rfl <;> omega
  have hmm := @run_makeMap Try.prog
  have hHb : 5 ≤ H ∧ H ≤ 16 := by omega
  have hWb : 3 ≤ W ∧ W ≤ 24 := by omega
  obtain ⟨res, hres⟩ : ∃ x, bayL A P W H l [] = x := ⟨_, rfl⟩
  have HBL := hid hres
  rw [hres]
  have HRES := hid hres
  have HW := hid hW
  have HH := hid hH
  clear hn hI hres hW hH
  go_enter Try.func46, Try.ntmps46
  go_wp2
  rw [HW.out, (by have := HH.out; omega : (S : Int) + 4 = H)]
  generalize decide ((A : Int) < 1) = bb1
  generalize decide (8 < (A : Int)) = bb2
  generalize decide ((S : Int) < 1) = bb3
  generalize decide (12 < (S : Int)) = bb4
  generalize decide ((P : Int) < 2) = bb5
  generalize decide (3 < (P : Int)) = bb6
  generalize decide ((n : Int) < 1) = bb7
  generalize decide (6 < (n : Int)) = bb8
  have hmo : BAt 113 ((w.alloc (Obj.map #[] 0)).alloc (Obj.map #[] 0)) w.heap.size 0 (pS fun _ _ => False) := ((BAt.made 113 w).below ((Below.rf _).al _)).congr (fun kl => ⟨fun h => h.elim, fun ⟨_, _, _, _, _, h⟩ => h⟩)
  have hmb : BAt 113 ((w.alloc (Obj.map #[] 0)).alloc (Obj.map #[] 0)) (w.heap.size + 1) 0 (pS fun _ _ => False) := by
    have := (BAt.made 113 (w.alloc (Obj.map #[] 0))).congr (S' := pS fun _ _ => False) (fun kl => ⟨fun h => h.elim, fun ⟨_, _, _, _, _, h⟩ => h⟩)
    rw [World.size_alloc] at this
    exact this
  have hB : Below w.heap.size w ((w.alloc (Obj.map #[] 0)).alloc (Obj.map #[] 0)) := by (repeat (first | with_reducible exact Below.rf _ | with_reducible exact World.below_ext _ _ | with_reducible refine Below.ex ?_ _ | with_reducible refine Below.al ?_ _ | with_reducible refine Below.setCell ?_ (by simp) _ | with_reducible refine Below.drew ?_))
  have HMO := hid hmo
  have HMB := hid hmb
  have HB := hid hB
  clear hmo hmb hB hmm hmul hS
  obtain ⟨mo, hmo⟩ : ∃ x, w.heap.size = x := ⟨_, rfl⟩
  generalize ((w.alloc (Obj.map #[] 0)).alloc (Obj.map #[] 0)) = w0 at *
  rw [hmo] at HMO HMB HB ⊢
  have HM := hid hmo
  go_loopw [13] (fun x wr => ∃ k : Nat, x = .int .i64 (k) ∧ k ≤ W ∧ BAt 113 wr mo (2 * k) (pS (colS W H k)) ∧ BAt 113 wr (mo + 1) 0 (pS fun _ _ => False) ∧ Below mo w wr) (fun x _ => W - (intOf x).toNat)
  case atStart => exact ⟨0, rfl, Nat.zero_le _, HMO.out.congr (pS_congr (fun c d => ⟨fun h => h.elim, fun h => by unfold colS at h; omega⟩)), HMB.out, HB.out⟩
  case round =>
    obtain ⟨k, rfl, hk, h1, h2, h3⟩ := hrel
    have H1 := hid h1
    have H2 := hid h2
    have H3 := hid h3
    clear h1 h2 h3 HMO HMB HB hmo
    by_cases hlt : k < W
    · --BEGIN 1
      go_wp2_with (first | (at_mapUpdate; refine hold ?_) | go_in)
      unfold Hid
      refine wpList_put_b _ rfl _ _ _ rfl mo (2 * k) _ (fun r c => (r = 1 ∧ c = (k : Int)) ∨ colS W H k r c) 1 k rfl H1.out rfl rfl ⟨by omega, by omega⟩ ⟨by omega, by omega⟩ (by omega) (fun c d => Iff.rfl) ?_
      intro w1 hw1 hg1
      go_wp2_with (first | (at_mapUpdate; refine hold ?_) | go_in)
      unfold Hid
      refine wpList_put_b _ rfl _ _ _ rfl mo (2 * k + 1) _ (colS W H (k + 1)) ((H : Int) - 2) k rfl hw1 rfl rfl ⟨by omega, by omega⟩ ⟨by omega, by omega⟩ (by omega) (fun c d => by unfold colS; omega) ?_
      intro w2 hw2 hg2
      go_frame
      go_wp2
      go_roundw
      case rel =>
        refine ⟨k + 1, by go_num, by omega, hw2, ?_, ?_⟩
        · exact (H2.out.of_block (hg1.block _ H2.out.lt (by simp))).of_block (hg2.block _ (by have := H2.out.lt; have := hg1.size; omega) (by simp))
        · have hs3 : mo ≤ wr.heap.size := by rw [← HM.out]; exact H3.out.size
          exact (H3.out.grown hg1 hs3 (fun k hk => by cases hk; omega)).grown hg2 (Nat.le_trans hs3 hg1.size) (fun k hk => by cases hk; omega)
      case measure => simp [intOf]; omega
      --END 1
    · have : k = W := by omega
      subst this
      obtain ⟨w1, hw1⟩ : ∃ x, wr = x := ⟨_, rfl⟩
      subst hw1
      have H1' : Hid (BAt 113 wr mo (2 * k) (pS (aisS P k H 0 2))) := H1.out.congr (pS_congr (fun c d => by
        unfold colS aisS
        constructor
        · exact fun h => Or.inl h
        · rintro (h | ⟨-, -, x, h3, -⟩ | h)
          · exact h
          · omega
          · omega))
      obtain ⟨W, hWk⟩ : ∃ x, k = x := ⟨_, rfl⟩
      subst hWk
      clear H1
      go_wp2
      go_loopw [14] (fun x wr => ∃ (a m : Nat), x = .int .i64 (a) ∧ a ≤ A ∧ m ≤ 48 + 16 * a ∧ BAt 113 wr mo m (pS (aisS P k H a 2)) ∧ BAt 113 wr (mo + 1) 0 (pS fun _ _ => False) ∧ Below mo w wr) (fun x _ => A - (intOf x).toNat)
      case atStart => exact ⟨0, 2 * k, rfl, Nat.zero_le _, by omega, H1'.out, H2.out, H3.out⟩
      case round =>
        obtain ⟨a, m, rfl, hak, hm, h1, h2, h3⟩ := hrel
        have H5 := hid h1
        have H6 := hid h2
        have H7 := hid h3
        have hap : 0 ≤ (a : Int) * (P : Int) ∧ (a : Int) * (P : Int) ≤ 24 := by
          rcases (by omega : P = 2 ∨ P = 3) with rfl | rfl <;> omega
        clear h1 h2 h3 H1' H2 H3 hlt hk
        by_cases hlt : a < A
        · --BEGIN 2
          obtain ⟨w1, hw1⟩ : ∃ x, wr = x := ⟨_, rfl⟩
          rw [hw1] at H5 H6 H7 ⊢
          clear hw1 wr
          go_wp2
          go_loopw [15] (fun x wr => ∃ (row m : Nat), x = .int .i64 (row) ∧ 2 ≤ row ∧ row ≤ H - 2 ∧ m ≤ 48 + 16 * a + row ∧ BAt 113 wr mo m (pS (aisS P k H a row)) ∧ BAt 113 wr (mo + 1) 0 (pS fun _ _ => False) ∧ Below mo w wr) (fun x _ => H - (intOf x).toNat)
          case atStart => exact ⟨2, m, rfl, Nat.le_refl _, by omega, by omega, H5.out, H6.out, H7.out⟩
          case round =>
            obtain ⟨row, m2, rfl, hr2, hr3, hm2, h1, h2, h3⟩ := hrel
            have J1 := hid h1
            have J2 := hid h2
            have J3 := hid h3
            clear h1 h2 h3 H5 H6 H7
            by_cases hlr : row < H - 2
            · have d1 : decide ((row : Int) < (H : Int) - 2) = true := by simp; omega
              go_wp2_with (first | (at_mapUpdate; refine hold ?_) | go_in)
              unfold Hid
              refine wpList_put_b _ rfl _ _ _ rfl mo m2 _ (aisS P k H a (row + 1)) row (1 + (a : Int) * (P : Int)) rfl J1.out rfl rfl ⟨by omega, by omega⟩ ⟨by omega, by omega⟩ (by omega) (aisS_put P k H a row hr2) ?_
              intro w2 hw2 hg2
              go_frame
              go_wp2
              go_roundw
              case rel =>
                refine ⟨row + 1, m2 + 1, by go_num, by omega, by omega, by omega, hw2, ?_, ?_⟩
                · exact J2.out.of_block (hg2.block _ J2.out.lt (by simp))
                · have hs3 : mo ≤ wr.heap.size := by rw [← HM.out]; exact J3.out.size
                  exact J3.out.grown hg2 hs3 (fun k hk => by cases hk; omega)
              case measure => simp [intOf]; omega
            · have hrow : row = H - 2 := by omega
              subst hrow
              have d1 : decide (((H - 2 : Nat) : Int) < (H : Int) - 2) = false := by simp; omega
              go_wp2
              go_roundw
              case rel => exact ⟨a + 1, m2, by go_num, by omega, by omega, J1.out.congr (pS_congr (aisS_next P k H a hHb.1)), J2.out, J3.out⟩
              case measure => simp [intOf]; omega
          --END 2
        · have : a = A := by omega
          subst this
          have hN : NwB a P k H mo w wr (fun b => if b = mo then 2 else if b = mo + 1 then 3 else 0) (.slice none 0 0) [] := by
            refine ⟨⟨m, by simp; omega, H5.out.congr (pS_congr (fun c d => ?_))⟩, H6.out.congr (pS_congr (fun c d => by simp)), LAt.nil _ _ _ _, by simp, by simp, H7.out⟩
            unfold opnP lopn aisS
            constructor
            · rintro (h | h | h)
              · exact Or.inl (Or.inl h)
              · exact Or.inl (Or.inr h)
              · omega
            · rintro ((h | h) | h)
              · exact Or.inl h
              · exact Or.inr (Or.inl h)
              · cases h
          have HN0 := hid hN
          have HL0 : Hid (∀ k, k < mo → (fun b => if b = mo then 2 else if b = mo + 1 then 3 else 0) k = 0) := fun k hk => by
            show (if k = mo then 2 else if k = mo + 1 then 3 else 0) = 0
            rw [if_neg (by omega), if_neg (by omega)]
          clear H5 H6 H7 hN hap
          generalize (fun b => if b = mo then 2 else if b = mo + 1 then 3 else 0) = lb0 at *
          go_wp2
          go_loopw [16, 111] (fun bv x wr => ∃ (i : Nat) (bl : List (Int × Int)) (lb : Nat → Nat), x = .int .i64 (i) ∧ i ≤ n ∧ bl.length = i ∧ bayL a P k H (l.drop i) bl = res ∧ NwB a P k H mo w wr lb bv bl ∧ ∀ j, j < mo → lb j = 0) (fun _ x _ => n - (intOf x).toNat)
          case atStart => exact ⟨0, [], lb0, rfl, Nat.zero_le _, rfl, HRES.out, HN0.out, HL0.out⟩
          case round =>
            rename_i bv ix
            obtain ⟨i, bl, lb, rfl, hi, hbl, heq, hN, hL⟩ := hrel
            have HN1 := hid hN
            have HL1 := hid hL
            obtain ⟨bo, bc, hv⟩ := hN.ls.val
            rw [hbl] at hv
            subst hv
            clear hL HN0 HL0 HRES
            by_cases hlt2 : i < n
            · --BEGIN 3
              have hkl : i < l.length := by rw [HN.out]; exact hlt2
              have hx : l[i]? = some l[i] := List.getElem?_eq_getElem hkl
              have hdr : l.drop i = l[i] :: l.drop (i + 1) := List.drop_eq_getElem_cons hkl
              have ib := HI.out.i64 _ (List.getElem_mem hkl)
              generalize l[i] = b at *
              obtain ⟨b0, a0, n', cap', hv, hbl0, -, q⟩ := HI.out.row i b hx
              simp only [Value.slice.injEq] at hv
              obtain ⟨rfl, rfl, rfl⟩ := hv
              have q' : wr.cell? ⟨b0, a0 + i, none⟩ = some (.int .i64 (b)) := (World.cell?_of_block (hN.bel.block b0 (by rw [← HM.out]; exact hbl0))).trans q
              have hszr : mo + 1 < wr.heap.size := hN.ib.lt
              have hbl1 : b0 < wr.heap.size := by rw [HM.out] at hbl0; omega
              have di : decide ((i : Int) < (n : Int)) = true := by simp; omega
              rw [hdr, bayL] at heq
              have hib := ib
              unfold I64 at ib
              clear hdr hx q hN
              by_cases g1 : b < 0
              · rw [if_pos (Or.inl g1)] at heq
                have HE := hid heq
                have d1 : decide ((k : Int) ≤ b) = false := by simp; omega
                clear heq
                go_wp2
                go_ret
                rw [← HE.out]
                exact ⟨by have := HN1.out.bel; rw [← HM.out] at this; exact (this.al _), rfl⟩
              · by_cases g2 : 2 * (k : Int) ≤ b
                · rw [if_pos (Or.inr (Or.inl g2))] at heq
                  have HE := hid heq
                  have d1 : decide ((k : Int) ≤ b) = true := by simp; omega
                  clear heq
                  go_wp2
                  go_ret
                  rw [← HE.out]
                  exact ⟨by have := HN1.out.bel; rw [← HM.out] at this; exact (this.al _), rfl⟩
                · obtain ⟨m, hm, hop⟩ := HN1.out.op
                  by_cases g3 : (k : Int) ≤ b
                  · have hp : bpl k H b = ((H : Int) - 1, b - (k : Int)) := by unfold bpl; rw [if_pos g3]
                    rw [hp] at heq
                    have hop2 : BAt 113 (wr.alloc (Obj.cells #[.int .i64 ((H : Int) - 1), .int .i64 (b - (k : Int))] 113)) mo m (pS (opnP a P k H bl)) := hop.below ((Below.rf _).al _)
                    have i1 : I64 ((H : Int) - 1) := ⟨by omega, by omega⟩
                    have i2 : I64 (b - (k : Int)) := ⟨by omega, by omega⟩
                    by_cases g5 : opnP a P k H bl ((H : Int) - 1) (b - (k : Int))
                    · rw [if_pos (Or.inr (Or.inr (by exact g5)))] at heq
                      have e1 := hop2.look2 i1 i2 true (by simp [g5])
                      have HE := hid heq
                      clear heq i1 i2 g5 hop hop2 hp
                      go_wp2
                      go_ret
                      rw [← HE.out]
                      exact ⟨by have := HN1.out.bel; rw [← HM.out] at this; exact (this.al _), rfl⟩
                    · rw [if_neg (fun h => by rcases h with h | h | h; exact g1 h; exact g2 h; exact g5 h)] at heq
                      have e1 := hop2.look2 i1 i2 false (by simp [g5])
                      have HE := hid heq
                      have HO2 := hid hop2
                      have HI12 := hid (And.intro i1 i2)
                      have hle : bl.length + 1 ≤ 6 := by omega
                      clear heq i1 i2 g5 hop hop2 hp
                      go_wp2
                      refine wp_region_tree 5 (fun w' => w'.cell? ⟨wr.heap.size, 0, none⟩ = some (.int .i64 ((H : Int) - 1)) ∧ w'.cell? ⟨wr.heap.size, 1, none⟩ = some (.int .i64 (b - (k : Int)))) (.q 0 false (.q 1 true (.q 2 false (.q 3 true (.one 4 true (.one 5 false .nil)))))) (by kernel_rfl) (by kernel_rfl) (by kernel_rfl) ?_ ?_
                      · simp [go_sem, ↓IntWalk.iteOmega, *]
                      repeat (first | (refine wpTr_qf (v := ?_) rfl rfl ?_ ?_; rotate_left; focus (intro w; go_simp; (try (with_reducible rfl)); done); try simp only [List.getElem_toArray, List.getElem_cons_zero, List.getElem_cons_succ, Act.put, List.setIfInBounds_toArray, List.set_cons_zero, List.set_cons_succ]) | (refine wpTr_qt (v := ?_) rfl rfl ?_ ?_; rotate_left; focus (intro w hSw; (try dsimp only at hSw); go_simp; (try (with_reducible rfl)); done); try simp only [List.getElem_toArray, List.getElem_cons_zero, List.getElem_cons_succ, Act.put, List.setIfInBounds_toArray, List.set_cons_zero, List.set_cons_succ]))
                      refine wpTr_one rfl rfl (fun K hK => ?_)
                      refine wp_put_b _ _ _ _ rfl mo m _ (opnP a P k H (bl ++ [((H : Int) - 1, b - (k : Int))])) ((H : Int) - 1) (b - (k : Int)) (by simp [go_sem]) (HO2.out.below (Below.rf _).drew) (by simp [go_sem]) (by simp [go_sem]) HI12.out.1 HI12.out.2 (by omega) (fun c d => ?_) ?_
                      · unfold opnP
                        simp only [List.mem_append, List.mem_singleton, Prod.mk.injEq]
                        exact ⟨fun h => by rcases h with h | h | h; exact Or.inr (Or.inl h); exact Or.inr (Or.inr h); exact Or.inl h, fun h => by rcases h with h | h | h; exact Or.inr (Or.inr h); exact Or.inl h; exact Or.inr (Or.inl h)⟩
                      intro w6 hw6 hg6
                      have hs6 := hg6.size
                      simp only [World.size_drew, World.size_alloc] at hs6
                      have q6 : w6.cell? ⟨wr.heap.size, 0, none⟩ = some (.int .i64 ((H : Int) - 1)) ∧ w6.cell? ⟨wr.heap.size, 1, none⟩ = some (.int .i64 (b - (k : Int))) := by
                        have hb := hg6.block wr.heap.size (by simp) (by simp; omega)
                        refine ⟨(World.cell?_of_block hb).trans ?_, (World.cell?_of_block hb).trans ?_⟩ <;> simp [go_sem, ↓IntWalk.iteOmega]
                      refine hK.out _ _ (fun _ => q6) ?_
                      clear hK K
                      simp only [Act.put, List.setIfInBounds_toArray, List.set_cons_zero, List.set_cons_succ]
                      refine wpTr_one rfl rfl (fun K hK => ?_)
                      refine wp_put_b _ _ _ _ rfl (mo + 1) bl.length _ (fun r c => (r, c) ∈ bl ++ [((H : Int) - 1, b - (k : Int))]) ((H : Int) - 1) (b - (k : Int)) (by simp [go_sem]) ((HN1.out.ib.below ((Below.rf _).al (Obj.cells #[.int .i64 ((H : Int) - 1), .int .i64 (b - (k : Int))] 113)).drew).of_block (hg6.block _ (by simp; omega) (by simp))) (by simp [go_sem]) (by simp [go_sem]) HI12.out.1 HI12.out.2 (by omega) (fun c d => ?_) ?_
                      · simp only [List.mem_append, List.mem_singleton, Prod.mk.injEq]
                        exact ⟨fun h => h.symm, fun h => h.symm⟩
                      intro w7 hw7 hg7
                      refine hK.out _ _ (fun h => by cases h) ?_
                      clear hK K
                      refine wpTr_nil ?_
                      refine NoPanic.normal ?_
                      have hs7 := hg7.size
                      have q7 : w7.cell? ⟨wr.heap.size, 0, none⟩ = some (.int .i64 ((H : Int) - 1)) ∧ w7.cell? ⟨wr.heap.size, 1, none⟩ = some (.int .i64 (b - (k : Int))) := by
                        have hb := hg7.block wr.heap.size (by omega) (by simp; omega)
                        exact ⟨(World.cell?_of_block hb).trans q6.1, (World.cell?_of_block hb).trans q6.2⟩
                      obtain ⟨q71, q72⟩ := q7
                      have HLS : Hid (LAt w7 lb 4 2 (.slice bo i bc) bl.length (prow bl)) := by
                        have l1 := (HN1.out.ls.below ((Below.rf _).al (Obj.cells #[.int .i64 ((H : Int) - 1), .int .i64 (b - (k : Int))] 113)).drew)
                        have l2 := l1.of hg6.size (fun b' h1 h2 => hg6.block b' h1 (fun e => by cases e; have := HN1.out.l2; omega)) (fun _ _ => rfl)
                        have l3 := l2.of hg7.size (fun b' h1 h2 => hg7.block b' h1 (fun e => by cases e; have := HN1.out.l3; omega)) (fun _ _ => rfl)
                        rw [hbl] at l3 ⊢
                        exact l3
                      have HO7 : Hid (BAt 113 w7 mo (m + 1) (pS (opnP a P k H (bl ++ [((H : Int) - 1, b - (k : Int))])))) := hw6.of_block (hg7.block _ (by omega) (by simp))
                      have HI7 := hid hw7
                      have HB7 : Hid (Below mo w w7) := by
                        have s1 : mo ≤ wr.heap.size := by omega
                        have := (HN1.out.bel.trans (((Below.rf wr).al (Obj.cells #[.int .i64 ((H : Int) - 1), .int .i64 (b - (k : Int))] 113)).drew.mono s1))
                        have := this.grown hg6 (by simp; omega) (fun k hk => by cases hk; omega)
                        exact this.grown hg7 (by omega) (fun k hk => by cases hk; omega)
                      clear hw6 hw7 hg6 hg7 q6 e1 q'
                      have hlt7 : wr.heap.size < w7.heap.size := by omega
                      simp only [Act.put, List.setIfInBounds_toArray, List.set_cons_zero, List.set_cons_succ]
                      go_wp2_with (first | (at_builtin; refine hold ?_) | go_in)
                      unfold Hid
                      refine wpl_ls rfl _ _ 116 113 (.agg #[.int .i64 (0), .int .i64 (0)]) 2 16 rfl Try.underlying116 (by kernel_rfl) rfl (by decide) lb 4 _ bl.length (prow bl) (by rfl) (HLS.out.below ((Below.rf _).al _)) _ 1 1 (prow [((H : Int) - 1, b - (k : Int))]) (by decide) (by omega) (by omega) rfl rfl ?_ ?_ ?_
                      · intro j u hj
                        have hj2 := (List.getElem?_eq_some_iff.1 hj).1
                        simp [prow] at hj2
                        rcases (by omega : j = 0 ∨ j = 1) with rfl | rfl <;> simp [prow] at hj <;> subst hj <;> simp [go_sem, ↓IntWalk.iteOmega]
                      · simp [prow, Value.oneCell']
                      intro v' w8 lb8 hls hlab hk8
                      rw [← prow_app] at hls
                      have hs8 := hk8.size
                      simp only [World.size_alloc] at hs8
                      go_frame
                      go_wp2
                      go_roundw
                      case rel =>
                        refine ⟨i + 1, bl ++ [((H : Int) - 1, b - (k : Int))], lb8, by go_num, by omega, by simp [hbl], HE.out, ⟨⟨m + 1, by simp; omega, ?_⟩, ?_, ?_, ?_, ?_, ?_⟩, fun j hj => ?_⟩
                        · exact (HO7.out.below ((Below.rf _).al _)).of_block (hk8.block _ (by simp; omega) (by rw [HN1.out.l2]; omega))
                        · rw [List.length_append]
                          exact (HI7.out.below ((Below.rf _).al _)).of_block (hk8.block _ (by simp; omega) (by rw [HN1.out.l3]; omega))
                        · rw [List.length_append]; exact hls
                        · rw [hlab _ (by simp; omega)]; exact HN1.out.l2
                        · rw [hlab _ (by simp; omega)]; exact HN1.out.l3
                        · have h1 := HB7.out
                          refine ⟨hk8.os.trans h1.os, hk8.tape.trans h1.tape, hk8.output.trans h1.output, Nat.le_trans h1.size (by omega), fun j hj => (hk8.block j (by simp; omega) (by rw [HL1.out j hj]; omega)).trans ((((Below.rf w7).al _).block j (by omega)).trans (h1.block j hj))⟩
                        · rw [hlab j (by simp; omega)]; exact HL1.out j hj
                      case measure => simp [intOf]; omega
                  · have hp : bpl k H b = (0, b) := by unfold bpl; rw [if_neg g3]
                    rw [hp] at heq
                    have hop2 : BAt 113 (wr.alloc (Obj.cells #[.int .i64 (0), .int .i64 (b)] 113)) mo m (pS (opnP a P k H bl)) := hop.below ((Below.rf _).al _)
                    have i1 : I64 (0) := ⟨by omega, by omega⟩
                    have i2 : I64 (b) := ⟨by omega, by omega⟩
                    by_cases g5 : opnP a P k H bl (0) (b)
                    · rw [if_pos (Or.inr (Or.inr (by exact g5)))] at heq
                      have e1 := hop2.look2 i1 i2 true (by simp [g5])
                      have HE := hid heq
                      clear heq i1 i2 g5 hop hop2 hp
                      go_wp2
                      go_ret
                      rw [← HE.out]
                      exact ⟨by have := HN1.out.bel; rw [← HM.out] at this; exact (this.al _), rfl⟩
                    · rw [if_neg (fun h => by rcases h with h | h | h; exact g1 h; exact g2 h; exact g5 h)] at heq
                      have e1 := hop2.look2 i1 i2 false (by simp [g5])
                      have HE := hid heq
                      have HO2 := hid hop2
                      have HI12 := hid (And.intro i1 i2)
                      have hle : bl.length + 1 ≤ 6 := by omega
                      clear heq i1 i2 g5 hop hop2 hp
                      go_wp2
                      refine wp_region_tree 5 (fun w' => w'.cell? ⟨wr.heap.size, 0, none⟩ = some (.int .i64 (0)) ∧ w'.cell? ⟨wr.heap.size, 1, none⟩ = some (.int .i64 (b))) (.q 0 false (.q 1 true (.q 2 false (.q 3 true (.one 4 true (.one 5 false .nil)))))) (by kernel_rfl) (by kernel_rfl) (by kernel_rfl) ?_ ?_
                      · simp [go_sem, ↓IntWalk.iteOmega, *]
                      repeat (first | (refine wpTr_qf (v := ?_) rfl rfl ?_ ?_; rotate_left; focus (intro w; go_simp; (try (with_reducible rfl)); done); try simp only [List.getElem_toArray, List.getElem_cons_zero, List.getElem_cons_succ, Act.put, List.setIfInBounds_toArray, List.set_cons_zero, List.set_cons_succ]) | (refine wpTr_qt (v := ?_) rfl rfl ?_ ?_; rotate_left; focus (intro w hSw; (try dsimp only at hSw); go_simp; (try (with_reducible rfl)); done); try simp only [List.getElem_toArray, List.getElem_cons_zero, List.getElem_cons_succ, Act.put, List.setIfInBounds_toArray, List.set_cons_zero, List.set_cons_succ]))
                      refine wpTr_one rfl rfl (fun K hK => ?_)
                      refine wp_put_b _ _ _ _ rfl mo m _ (opnP a P k H (bl ++ [(0, b)])) (0) (b) (by simp [go_sem]) (HO2.out.below (Below.rf _).drew) (by simp [go_sem]) (by simp [go_sem]) HI12.out.1 HI12.out.2 (by omega) (fun c d => ?_) ?_
                      · unfold opnP
                        simp only [List.mem_append, List.mem_singleton, Prod.mk.injEq]
                        exact ⟨fun h => by rcases h with h | h | h; exact Or.inr (Or.inl h); exact Or.inr (Or.inr h); exact Or.inl h, fun h => by rcases h with h | h | h; exact Or.inr (Or.inr h); exact Or.inl h; exact Or.inr (Or.inl h)⟩
                      intro w6 hw6 hg6
                      have hs6 := hg6.size
                      simp only [World.size_drew, World.size_alloc] at hs6
                      have q6 : w6.cell? ⟨wr.heap.size, 0, none⟩ = some (.int .i64 (0)) ∧ w6.cell? ⟨wr.heap.size, 1, none⟩ = some (.int .i64 (b)) := by
                        have hb := hg6.block wr.heap.size (by simp) (by simp; omega)
                        refine ⟨(World.cell?_of_block hb).trans ?_, (World.cell?_of_block hb).trans ?_⟩ <;> simp [go_sem, ↓IntWalk.iteOmega]
                      refine hK.out _ _ (fun _ => q6) ?_
                      clear hK K
                      simp only [Act.put, List.setIfInBounds_toArray, List.set_cons_zero, List.set_cons_succ]
                      refine wpTr_one rfl rfl (fun K hK => ?_)
                      refine wp_put_b _ _ _ _ rfl (mo + 1) bl.length _ (fun r c => (r, c) ∈ bl ++ [(0, b)]) (0) (b) (by simp [go_sem]) ((HN1.out.ib.below ((Below.rf _).al (Obj.cells #[.int .i64 (0), .int .i64 (b)] 113)).drew).of_block (hg6.block _ (by simp; omega) (by simp))) (by simp [go_sem]) (by simp [go_sem]) HI12.out.1 HI12.out.2 (by omega) (fun c d => ?_) ?_
                      · simp only [List.mem_append, List.mem_singleton, Prod.mk.injEq]
                        exact ⟨fun h => h.symm, fun h => h.symm⟩
                      intro w7 hw7 hg7
                      refine hK.out _ _ (fun h => by cases h) ?_
                      clear hK K
                      refine wpTr_nil ?_
                      refine NoPanic.normal ?_
                      have hs7 := hg7.size
                      have q7 : w7.cell? ⟨wr.heap.size, 0, none⟩ = some (.int .i64 (0)) ∧ w7.cell? ⟨wr.heap.size, 1, none⟩ = some (.int .i64 (b)) := by
                        have hb := hg7.block wr.heap.size (by omega) (by simp; omega)
                        exact ⟨(World.cell?_of_block hb).trans q6.1, (World.cell?_of_block hb).trans q6.2⟩
                      obtain ⟨q71, q72⟩ := q7
                      have HLS : Hid (LAt w7 lb 4 2 (.slice bo i bc) bl.length (prow bl)) := by
                        have l1 := (HN1.out.ls.below ((Below.rf _).al (Obj.cells #[.int .i64 (0), .int .i64 (b)] 113)).drew)
                        have l2 := l1.of hg6.size (fun b' h1 h2 => hg6.block b' h1 (fun e => by cases e; have := HN1.out.l2; omega)) (fun _ _ => rfl)
                        have l3 := l2.of hg7.size (fun b' h1 h2 => hg7.block b' h1 (fun e => by cases e; have := HN1.out.l3; omega)) (fun _ _ => rfl)
                        rw [hbl] at l3 ⊢
                        exact l3
                      have HO7 : Hid (BAt 113 w7 mo (m + 1) (pS (opnP a P k H (bl ++ [(0, b)])))) := hw6.of_block (hg7.block _ (by omega) (by simp))
                      have HI7 := hid hw7
                      have HB7 : Hid (Below mo w w7) := by
                        have s1 : mo ≤ wr.heap.size := by omega
                        have := (HN1.out.bel.trans (((Below.rf wr).al (Obj.cells #[.int .i64 (0), .int .i64 (b)] 113)).drew.mono s1))
                        have := this.grown hg6 (by simp; omega) (fun k hk => by cases hk; omega)
                        exact this.grown hg7 (by omega) (fun k hk => by cases hk; omega)
                      clear hw6 hw7 hg6 hg7 q6 e1 q'
                      have hlt7 : wr.heap.size < w7.heap.size := by omega
                      simp only [Act.put, List.setIfInBounds_toArray, List.set_cons_zero, List.set_cons_succ]
                      go_wp2_with (first | (at_builtin; refine hold ?_) | go_in)
                      unfold Hid
                      refine wpl_ls rfl _ _ 116 113 (.agg #[.int .i64 (0), .int .i64 (0)]) 2 16 rfl Try.underlying116 (by kernel_rfl) rfl (by decide) lb 4 _ bl.length (prow bl) (by rfl) (HLS.out.below ((Below.rf _).al _)) _ 1 1 (prow [(0, b)]) (by decide) (by omega) (by omega) rfl rfl ?_ ?_ ?_
                      · intro j u hj
                        have hj2 := (List.getElem?_eq_some_iff.1 hj).1
                        simp [prow] at hj2
                        rcases (by omega : j = 0 ∨ j = 1) with rfl | rfl <;> simp [prow] at hj <;> subst hj <;> simp [go_sem, ↓IntWalk.iteOmega]
                      · simp [prow, Value.oneCell']
                      intro v' w8 lb8 hls hlab hk8
                      rw [← prow_app] at hls
                      have hs8 := hk8.size
                      simp only [World.size_alloc] at hs8
                      go_frame
                      go_wp2
                      go_roundw
                      case rel =>
                        refine ⟨i + 1, bl ++ [(0, b)], lb8, by go_num, by omega, by simp [hbl], HE.out, ⟨⟨m + 1, by simp; omega, ?_⟩, ?_, ?_, ?_, ?_, ?_⟩, fun j hj => ?_⟩
                        · exact (HO7.out.below ((Below.rf _).al _)).of_block (hk8.block _ (by simp; omega) (by rw [HN1.out.l2]; omega))
                        · rw [List.length_append]
                          exact (HI7.out.below ((Below.rf _).al _)).of_block (hk8.block _ (by simp; omega) (by rw [HN1.out.l3]; omega))
                        · rw [List.length_append]; exact hls
                        · rw [hlab _ (by simp; omega)]; exact HN1.out.l2
                        · rw [hlab _ (by simp; omega)]; exact HN1.out.l3
                        · have h1 := HB7.out
                          refine ⟨hk8.os.trans h1.os, hk8.tape.trans h1.tape, hk8.output.trans h1.output, Nat.le_trans h1.size (by omega), fun j hj => (hk8.block j (by simp; omega) (by rw [HL1.out j hj]; omega)).trans ((((Below.rf w7).al _).block j (by omega)).trans (h1.block j hj))⟩
                        · rw [hlab j (by simp; omega)]; exact HL1.out j hj
                      case measure => simp [intOf]; omega
              --END 3
            · have hin : i = n := by omega
              have hil : l.length ≤ i := by rw [HN.out]; omega
              rw [List.drop_eq_nil_of_le hil, bayL] at heq
              have HE : Hid (res = some bl) := heq.symm
              have HE0 : Hid (bayL a P k H l [] = some bl) := HBL.out.trans heq.symm
              have hni : n = i := hin.symm
              clear hin
              subst hni
              have HBn := hid hbl
              have di : decide ((n : Int) < (n : Int)) = false := by simp
              clear heq hil hN
              have hF : NwF a P k H mo wr.heap.size w (wr.alloc (Obj.cells #[.slice none 0 0, .slice none 0 0, .slice none 0 0, .slice none 0 0] 118)) (upd lb wr.heap.size 5) (.slice bo n bc) bl (.slice none 0 0) (.slice none 0 0) (.slice none 0 0) (.slice none 0 0) := by
                have hml := HN1.out.ib.lt
                refine ⟨HN1.out.keptL (L := fun _ => False) HM.out (KeptL.of_below ((Below.rf _).al _)) (fun k hk => upd_ne _ _ (by omega)) (fun _ h => h.elim) HL1.out, fun k hk => (upd_ne _ _ (by omega)).trans (HL1.out k hk), upd_at _ _ _, ⟨by simp, fun i hi => ?_, fun i hi => by simp [go_sem, ↓IntWalk.iteOmega]⟩, HM.out⟩
                rcases (by omega : i = 0 ∨ i = 1 ∨ i = 2 ∨ i = 3) with rfl | rfl | rfl | rfl <;> simp [go_sem, ↓IntWalk.iteOmega, fc]
              have HF := hid hF
              go_wp2
              obtain ⟨fb, hfb⟩ : ∃ x, wr.heap.size = x := ⟨_, rfl⟩
              rw [hfb] at HF ⊢
              generalize (wr.alloc (Obj.cells #[.slice none 0 0, .slice none 0 0, .slice none 0 0, .slice none 0 0] 118)) = w9 at *
              generalize (upd lb fb 5) = lb9 at *
              clear hF HN1 HL1 hfb
              clear hi hlt hlt2 hak hm hbl di
              go_loopw [21] (fun x wr => ∃ (r : Nat) (lb : Nat → Nat) (pv : Value), x = .int .i64 (r) ∧ r ≤ H ∧ NwF a P k H mo fb w wr lb (.slice bo n bc) bl pv (.slice none 0 0) (.slice none 0 0) (.slice none 0 0) ∧ LAt wr lb 6 2 pv (rowsP (opn a P k H bl) k r).length (prow (rowsP (opn a P k H bl) k r))) (fun x _ => H - (intOf x).toNat)
              case atStart => exact ⟨0, lb9, _, rfl, Nat.zero_le _, HF.out, LAt.nil _ _ _ _⟩
              case round =>
                obtain ⟨r, lb1, pv, rfl, hr, h1, h2⟩ := hrel
                have H1 := hid h1
                have H2 := hid h2
                clear h1 h2 HF lb9 w9
                by_cases hlr : r < H
                · --BEGIN 4
                  obtain ⟨w1, hw1⟩ : ∃ x, wr = x := ⟨_, rfl⟩
                  rw [hw1] at H1 H2 ⊢
                  clear hw1 wr
                  go_wp2
                  go_loopw [22] (fun x wr => ∃ (c : Nat) (lb : Nat → Nat) (pv : Value), x = .int .i64 (c) ∧ c ≤ k ∧ NwF a P k H mo fb w wr lb (.slice bo n bc) bl pv (.slice none 0 0) (.slice none 0 0) (.slice none 0 0) ∧ LAt wr lb 6 2 pv (rowsP (opn a P k H bl) k r ++ rowP (opn a P k H bl) r c).length (prow (rowsP (opn a P k H bl) k r ++ rowP (opn a P k H bl) r c))) (fun x _ => k - (intOf x).toNat)
                  case atStart => exact ⟨0, lb1, pv, rfl, Nat.zero_le _, H1.out, by rw [rowP, List.append_nil]; exact H2.out⟩
                  case round =>
                    obtain ⟨c, lb2, pv2, rfl, hc, h3, h4⟩ := hrel
                    have J1 := hid h3
                    have J2 := hid h4
                    obtain ⟨po, pc, rfl⟩ := h4.val
                    clear H1 H2
                    by_cases hlc : c < k
                    · obtain ⟨m, hm, hop⟩ := h3.nb.op
                      have i1 : I64 (r : Int) := ⟨by omega, by omega⟩
                      have i2 : I64 (c : Int) := ⟨by omega, by omega⟩
                      have dc : decide ((c : Int) < (k : Int)) = true := by simp; omega
                      cases ho : opn a P k H bl r c with
                      | true =>
                        have e1 := hop.look2 i1 i2 true (opn_iff.trans (by rw [ho]))
                        have f0 : wr.cell? ⟨fb, 0, none⟩ = some (.slice po _ pc) := h3.bf.is 0 (by omega)
                        have hfl := h3.bf.lt
                        have hpl : (rowsP (opn a P k H bl) k r ++ rowP (opn a P k H bl) r c).length ≤ 800 := by
                          have g1 := rowsP_len (opn a P k H bl) k r
                          have g2 := rowP_len (opn a P k H bl) r c
                          have g3 : r * k ≤ 16 * 24 := Nat.mul_le_mul (by omega) (by omega)
                          rw [List.length_append]; omega
                        obtain ⟨L, hL⟩ : ∃ x, rowsP (opn a P k H bl) k r ++ rowP (opn a P k H bl) r c = x := ⟨_, rfl⟩
                        rw [hL] at J1 J2 f0 hpl
                        have HLL := hid hL
                        have HO := hid ho
                        clear h3 h4 hop i1 i2 ho hL
                        go_wp2_with (first | (at_builtin; refine hold ?_) | go_in)
                        unfold Hid
                        refine wpl_ls rfl _ _ 116 113 (.agg #[.int .i64 (0), .int .i64 (0)]) 2 16 rfl Try.underlying116 (by kernel_rfl) rfl (by decide) lb2 6 _ L.length (prow L) (by rfl) (J2.out.below ((Below.rf _).al _)) _ 1 1 (prow [((r : Int), (c : Int))]) (by decide) (by omega) (by omega) rfl rfl ?_ ?_ ?_
                        · intro j u hj
                          have hj2 := (List.getElem?_eq_some_iff.1 hj).1
                          simp [prow] at hj2
                          rcases (by omega : j = 0 ∨ j = 1) with rfl | rfl <;> simp [prow] at hj <;> subst hj <;> simp [go_sem, ↓IntWalk.iteOmega]
                        · simp [prow, Value.oneCell']
                        intro v' w8 lb8 hls hlab hk8
                        rw [← prow_app] at hls
                        obtain ⟨vo, vc, rfl⟩ := hls.val
                        have hs8 := hk8.size
                        simp only [World.size_alloc] at hs8
                        have hF8 := (J1.out.below ((Below.rf _).al (Obj.cells #[.int .i64 (r), .int .i64 (c)] 113))).keptL (lb' := lb8) hk8 hlab (fun x hx => by omega)
                        have f8 : w8.cell? ⟨fb, 0, none⟩ = some (.slice po L.length pc) := hF8.bf.is 0 (by omega)
                        have z8 : w8.frozen? ⟨fb, 0, none⟩ = false := hF8.bf.fz 0 (by omega)
                        have HF8 := hid hF8
                        have HLS8 := hid hls
                        clear hls hF8
                        go_wp2
                        go_roundw
                        case rel =>
                          refine ⟨c + 1, lb8, (.slice vo (L.length + 1) vc), by go_num, by omega, HF8.out.set 0 (by omega) _ (fun j hj => ?_), ?_⟩
                          · rcases (by omega : j = 0 ∨ j = 1 ∨ j = 2 ∨ j = 3) with rfl | rfl | rfl | rfl <;> rfl
                          · have e5 : rowsP (opn a P k H bl) k r ++ rowP (opn a P k H bl) r (c + 1) = L ++ [((r : Int), (c : Int))] := by
                              rw [rowP, HO.out, if_pos rfl, ← List.append_assoc, HLL.out]
                            rw [e5, List.length_append]
                            exact HLS8.out.keptL ((KeptL.refl _ (fun x => x = 5) _).set HF8.out.l5 _) (by omega)
                        case measure => simp [intOf]; omega
                      | false =>
                        have e1 := hop.look2 i1 i2 false (opn_iff.trans (by rw [ho]))
                        have HO := hid ho
                        clear h3 h4 hop i1 i2 ho
                        go_wp2
                        go_roundw
                        case rel =>
                          refine ⟨c + 1, lb2, _, by go_num, by omega, J1.out, ?_⟩
                          rw [rowP, HO.out, if_neg (by simp), List.append_nil]
                          exact J2.out
                        case measure => simp [intOf]; omega
                    · have hck : c = k := by omega
                      subst hck
                      clear h3 h4
                      go_wp2
                      go_roundw
                      case rel => exact ⟨r + 1, lb2, _, by go_num, by omega, J1.out, by rw [rowsP]; exact J2.out⟩
                      case measure => simp [intOf]; omega
                  --END 4
                · have hrH : r = H := by omega
                  subst hrH
                  obtain ⟨po, pc, rfl⟩ := H2.out.val
                  obtain ⟨pl, hpl⟩ : ∃ x, rowsP (opn a P k r bl) k r = x := ⟨_, rfl⟩
                  rw [hpl] at H1 H2
                  have hok : FOk (FS.of a P k r bl) := FS.ok (l := l) (by
                    have := HE0.out
                    exact this) (by rw [HN.out]; exact hl) hHb (by omega)
                  have hFn : (FS.of a P k r bl).n = pl.length := by rw [← hpl]; rfl
                  have hFb : (FS.of a P k r bl).bays = bayP pl bl bl.length := by rw [← hpl]; rfl
                  have hFe : (FS.of a P k r bl).near = fun x => nearP pl bl x pl.length := by rw [← hpl]; rfl
                  have hFd : (FS.of a P k r bl).dist = fwN (dist0 pl bl) pl.length := by rw [← hpl]; rfl
                  obtain ⟨N, hNn⟩ : ∃ x, pl.length = x := ⟨_, rfl⟩
                  have hN384 : 1 ≤ N ∧ N ≤ 384 := by rw [← hNn, ← hFn]; exact hok.n
                  have HPL := hid hpl
                  have HOK := hid hok
                  have HFn := hid hFn
                  have HFb := hid hFb
                  have HFe := hid hFe
                  have HFd := hid hFd
                  have HNn := hid hNn
                  have hpbd : ∀ (c : Nat) (p : Int × Int), pl[c]? = some p → 0 ≤ p.1 ∧ p.1 < 16 ∧ 0 ≤ p.2 ∧ p.2 < 24 := by
                    intro c p hp
                    have := List.mem_of_getElem? hp
                    rw [← hpl, rowsP_mem] at this
                    omega
                  have HPB := hid hpbd
                  rw [hNn] at H1 H2
                  clear hpl hok hFn hFb hFe hFd hNn hpbd hlr hr
                  have f0 : wr.cell? ⟨fb, 0, none⟩ = some (.slice po N pc) := H1.out.bf.is 0 (by omega)
                  have hfl := H1.out.bf.lt
                  go_wp2
                  go_loopw [179] (fun x wr => ∃ (i : Nat) (lb : Nat → Nat) (c1 : Value), x = .int .i64 (i) ∧ i ≤ n ∧ NwF a P k r mo fb w wr lb (.slice bo n bc) bl (.slice po N pc) c1 (.slice none 0 0) (.slice none 0 0) ∧ LAt wr lb 6 2 (.slice po N pc) N (prow pl) ∧ LAt wr lb 7 1 c1 (bayP pl bl i).length (irow (bayP pl bl i))) (fun x _ => n - (intOf x).toNat)
                  case atStart => exact ⟨0, lb1, _, rfl, Nat.zero_le _, H1.out, H2.out, LAt.nil _ _ _ _⟩
                  case round =>
                    obtain ⟨i, lb2, c1, rfl, hi, h1, h2, h3⟩ := hrel
                    have J1 := hid h1
                    have J2 := hid h2
                    have J3 := hid h3
                    clear H1 H2 f0 hfl h1 h2 h3
                    by_cases hlt2 : i < n
                    · --BEGIN 5
                      have hlt3 : i < bl.length := by rw [HBn.out]; exact hlt2
                      have hp : bl[i]? = some bl[i] := List.getElem?_eq_getElem hlt3
                      generalize bl[i] = p at *
                      obtain ⟨bb, bc2, hbv, hbn, hbbl, -, hbc⟩ := J1.out.nb.ls.see (by omega : 0 < bl.length)
                      simp only [Value.slice.injEq] at hbv
                      obtain ⟨rfl, -, rfl⟩ := hbv
                      have q1 := hbc _ _ (prow_at bl i p hp).1
                      have q2 := hbc _ _ (prow_at bl i p hp).2
                      have f0 : wr.cell? ⟨fb, 0, none⟩ = some (.slice po N pc) := J1.out.bf.is 0 (by omega)
                      have hfl := J1.out.bf.lt
                      have di : decide ((i : Int) < (n : Int)) = true := by simp; omega
                      have HP := hid hp
                      have hud : ∀ k, k < wr.heap.size → upd lb2 wr.heap.size 0 k = lb2 k := fun k hk => upd_ne _ _ (by omega)
                      have hBA : Below wr.heap.size wr (wr.alloc (Obj.cells #[.int .i64 (p.1), .int .i64 (p.2)] 113)) := (Below.rf _).al _
                      have KA := hid (And.intro (J1.out.keptL (lb' := upd lb2 wr.heap.size 0) (L := fun _ => False) (KeptL.of_below hBA) hud (fun _ h => h.elim)) (And.intro ((J2.out.relab hud).below hBA) (And.intro ((J3.out.relab hud).below hBA) (And.intro (upd_at lb2 wr.heap.size 0) (show Blk (wr.alloc (Obj.cells #[.int .i64 (p.1), .int .i64 (p.2)] 113)) wr.heap.size 2 (fc (.int .i64 (p.1)) (.int .i64 (p.2)) (.int .i64 (0)) (.int .i64 (0))) from ⟨by simp, fun j hj => by rcases (by omega : j = 0 ∨ j = 1) with rfl | rfl <;> simp [go_sem, ↓IntWalk.iteOmega, fc], fun j hj => by simp [go_sem, ↓IntWalk.iteOmega]⟩)))))
                      clear hp hbc hud hBA J1 J2 J3 hlt3
                      go_wp2
                      obtain ⟨pb, hpb⟩ : ∃ x, wr.heap.size = x := ⟨_, rfl⟩
                      rw [hpb] at KA ⊢
                      generalize (wr.alloc (Obj.cells #[.int .i64 (p.1), .int .i64 (p.2)] 113)) = wA at *
                      generalize (upd lb2 pb 0) = lbA at *
                      clear hpb q1 q2 f0 hfl hbbl
                      go_loopw [188] (fun x wr => ∃ (c : Nat) (lb : Nat → Nat) (c1 : Value), x = .int .i64 (c) ∧ c ≤ N ∧ NwF a P k r mo fb w wr lb (.slice (some ⟨bb, 0, none⟩) n bc) bl (.slice po N pc) c1 (.slice none 0 0) (.slice none 0 0) ∧ LAt wr lb 6 2 (.slice po N pc) N (prow pl) ∧ LAt wr lb 7 1 c1 (bayP pl bl i ++ whereP pl p c).length (irow (bayP pl bl i ++ whereP pl p c)) ∧ lb pb = 0 ∧ Blk wr pb 2 (fc (.int .i64 (p.1)) (.int .i64 (p.2)) (.int .i64 (0)) (.int .i64 (0)))) (fun x _ => N - (intOf x).toNat)
                      case atStart => exact ⟨0, lbA, c1, rfl, Nat.zero_le _, KA.out.1, KA.out.2.1, by rw [whereP, List.append_nil]; exact KA.out.2.2.1, KA.out.2.2.2.1, KA.out.2.2.2.2⟩
                      case round =>
                        obtain ⟨c, lb3, c1, rfl, hc, h1, h2, h3, h4, h5⟩ := hrel
                        have J1 := hid h1
                        have J2 := hid h2
                        have J3 := hid h3
                        have J4 := hid h4
                        have J5 := hid h5
                        obtain ⟨co, cc, rfl⟩ := h3.val
                        clear KA h2 h3 h4
                        by_cases hlc : c < N
                        · have hcl : c < pl.length := by rw [HNn.out]; exact hlc
                          have hq : pl[c]? = some pl[c] := List.getElem?_eq_getElem hcl
                          generalize pl[c] = q at *
                          obtain ⟨b6, pc2, hbv, hbn6, hb6, -, hbc⟩ := J2.out.see (by omega)
                          simp only [Value.slice.injEq] at hbv
                          obtain ⟨rfl, -, rfl⟩ := hbv
                          have q1 := hbc _ _ (prow_at pl c q hq).1
                          have q2 := hbc _ _ (prow_at pl c q hq).2
                          have p1 : wr.cell? ⟨pb, 0, none⟩ = some (.int .i64 (p.1)) := h5.is 0 (by omega)
                          have p2 : wr.cell? ⟨pb, 1, none⟩ = some (.int .i64 (p.2)) := h5.is 1 (by omega)
                          have hpl := h5.lt
                          have f1 : wr.cell? ⟨fb, 1, none⟩ = some (.slice co _ cc) := h1.bf.is 1 (by omega)
                          have hfl := h1.bf.lt
                          have dc : decide ((c : Int) < (N : Int)) = true := by simp; omega
                          obtain ⟨L, hL⟩ : ∃ x, bayP pl bl i ++ whereP pl p c = x := ⟨_, rfl⟩
                          have hLl : L.length ≤ 3000 := by
                            rw [← hL, List.length_append]
                            have g1 := bayP_le pl bl i
                            have g2 := whereP_le pl p c
                            rw [HNn.out] at g1
                            have g3 : i * N ≤ 6 * 384 := Nat.mul_le_mul (by omega) (by omega)
                            omega
                          rw [hL] at J1 J3 f1
                          have HL := hid hL
                          have HQ := hid hq
                          clear h1 h5 hbc hL hq
                          by_cases he : p = q
                          · have e7 := eq113 (wr.alloc (Obj.cells #[.int .i64 (q.1), .int .i64 (q.2)] 113)) p.1 p.2 q.1 q.2 true (by simp [he])
                            have HEQ := hid he
                            clear he
                            go_wp2_with (first | (at_builtin; refine hold ?_) | go_in)
                            unfold Hid
                            refine wpl_ls rfl _ _ 32 3 (.int .i64 (0)) 1 8 rfl Try.underlying32 (by kernel_rfl) rfl (by decide) lb3 7 _ L.length (irow L) (by rfl) (J3.out.below (by (repeat (first | with_reducible exact Below.rf _ | with_reducible exact World.below_ext _ _ | with_reducible refine Below.ex ?_ _ | with_reducible refine Below.al ?_ _ | with_reducible refine Below.setCell ?_ (by simp) _ | with_reducible refine Below.drew ?_)))) _ 1 1 (irow [(c : Int)]) (by decide) (by omega) (by omega) rfl rfl ?_ ?_ ?_
                            · intro j u hj
                              have hj2 := (List.getElem?_eq_some_iff.1 hj).1
                              simp [irow] at hj2
                              obtain rfl : j = 0 := by omega
                              simp [irow] at hj
                              subst hj
                              simp [go_sem, ↓IntWalk.iteOmega]
                            · simp [irow, Value.oneCell']
                            intro v' w8 lb8 hls hlab hk8
                            rw [← irow_app] at hls
                            obtain ⟨vo, vc, rfl⟩ := hls.val
                            have hs8 := hk8.size
                            simp only [World.size_alloc] at hs8
                            have hB2 : Below wr.heap.size wr ((wr.alloc (Obj.cells #[.int .i64 (q.1), .int .i64 (q.2)] 113)).alloc (Obj.cells #[.int .i64 (c)] 3)) := by (repeat (first | with_reducible exact Below.rf _ | with_reducible exact World.below_ext _ _ | with_reducible refine Below.ex ?_ _ | with_reducible refine Below.al ?_ _ | with_reducible refine Below.setCell ?_ (by simp) _ | with_reducible refine Below.drew ?_))
                            have hF8 := (J1.out.below hB2).keptL (lb' := lb8) hk8 hlab (fun x hx => by omega)
                            have hP8 := (J2.out.below hB2).of hk8.size (fun b h1 h2 => hk8.block b h1 (by rw [h2]; omega)) hlab
                            have hb8 := (J5.out.below hB2).keptL hk8 (by rw [J4.out]; omega)
                            have hl8 : lb8 pb = 0 := (hlab _ (by simp; omega)).trans J4.out
                            have f8 : w8.cell? ⟨fb, 1, none⟩ = some (.slice co L.length cc) := hF8.bf.is 1 (by omega)
                            have z8 : w8.frozen? ⟨fb, 1, none⟩ = false := hF8.bf.fz 1 (by omega)
                            have hk9 : KeptL lb8 (fun x => x = 5) w8 (w8.setCell ⟨fb, 1, none⟩ (.slice vo (L.length + 1) vc)) := (KeptL.refl lb8 (fun x => x = 5) w8).set hF8.l5 _
                            have KK := hid (And.intro (hF8.set (c1' := .slice vo (L.length + 1) vc) (c0' := .slice (some ⟨b6, 0, none⟩) N pc) (c2' := .slice none 0 0) (c3' := .slice none 0 0) 1 (by omega) (.slice vo (L.length + 1) vc) (fun j hj => by rcases (by omega : j = 0 ∨ j = 1 ∨ j = 2 ∨ j = 3) with rfl | rfl | rfl | rfl <;> rfl)) (And.intro (hP8.keptL hk9 (by omega)) (And.intro (hls.keptL hk9 (by omega)) (And.intro hl8 (hb8.keptL hk9 (by rw [hl8]; omega))))))
                            clear hls hF8 hP8 hb8 hl8 hk9 hB2
                            go_wp2
                            go_roundw
                            case rel =>
                              have e5 : bayP pl bl i ++ whereP pl p (c + 1) = L ++ [(c : Int)] := by
                                rw [whereP, HQ.out, HEQ.out, if_pos rfl, ← List.append_assoc, ← HEQ.out, HL.out]
                              refine ⟨c + 1, lb8, _, by go_num, by omega, KK.out.1, KK.out.2.1, ?_, KK.out.2.2.2.1, KK.out.2.2.2.2⟩
                              rw [e5, List.length_append]
                              exact KK.out.2.2.1
                            case measure => simp [intOf]; omega
                          · have e5 : Hid (bayP pl bl i ++ whereP pl p (c + 1) = L) := by
                              show bayP pl bl i ++ whereP pl p (c + 1) = L
                              rw [whereP, HQ.out, if_neg (fun h => he (by simpa using h.symm)), List.append_nil, HL.out]
                            have hB2 : Hid (Below wr.heap.size wr (wr.alloc (Obj.cells #[.int .i64 (q.1), .int .i64 (q.2)] 113))) := (Below.rf _).al _
                            have e7 := eq113 (wr.alloc (Obj.cells #[.int .i64 (q.1), .int .i64 (q.2)] 113)) p.1 p.2 q.1 q.2 false ⟨fun h => absurd (Prod.ext h.1 h.2) he, fun h => by cases h⟩
                            clear he
                            go_wp2
                            go_roundw
                            case rel => exact ⟨c + 1, lb3, _, by go_num, by omega, J1.out.below hB2.out, J2.out.below hB2.out, by rw [e5.out]; exact J3.out.below hB2.out, J4.out, J5.out.below hB2.out⟩
                            case measure => simp [intOf]; omega
                        · have hcN : c = N := by omega
                          subst hcN
                          clear h1 h5
                          go_wp2
                          go_roundw
                          case rel =>
                            refine ⟨i + 1, lb3, _, by go_num, by omega, J1.out, J2.out, ?_⟩
                            have e5 : bayP pl bl (i + 1) = bayP pl bl i ++ whereP pl p c := by
                              rw [bayP, HP.out, HNn.out]
                            rw [e5]
                            exact J3.out
                          case measure => simp [intOf]; omega
                      --END 5
                    · have hil : n = i := by omega
                      subst hil
                      obtain ⟨co, cc, rfl⟩ := J3.out.val
                      have f0 : wr.cell? ⟨fb, 0, none⟩ = some (.slice po N pc) := J1.out.bf.is 0 (by omega)
                      have f2 : wr.cell? ⟨fb, 2, none⟩ = some (.slice none 0 0) := J1.out.bf.is 2 (by omega)
                      have f3 : wr.cell? ⟨fb, 3, none⟩ = some (.slice none 0 0) := J1.out.bf.is 3 (by omega)
                      have z2 := J1.out.bf.fz 2 (by omega)
                      have z3 := J1.out.bf.fz 3 (by omega)
                      have hfl := J1.out.bf.lt
                      have H5 := hid J1.out.l5
                      obtain ⟨Zs, hs1, hs2, hs3⟩ := make_is (P := Try.prog) 65 32 (.slice none 0 0) 1 24 Try.underlying65 (by kernel_rfl) N (by omega) (by omega)
                      obtain ⟨Zr, hr1, hr2, hr3⟩ := make_is (P := Try.prog) 32 3 (.int .i64 (0)) 1 8 Try.underlying32 (by kernel_rfl) N (by omega) (by omega)
                      have HS2 := hid hs2
                      have HR2 := hid hr2
                      clear hs2 hr2 hlt2 hi
                      go_wp2
                      refine region_via (newFR N fb lb2 wr) ?_ ?_
                      · --BEGIN 6
                        refine wp_region_tree 11 (fun _ => True) (.q 0 false (.q 1 false (.q 2 false (.q 4 false (.two 3 5 (.q 6 false (.q 7 false (.two 5 8 (.one 8 true (.q 9 false (.q 10 false (.one 11 false .nil)))) (.one 5 true (.q 9 false (.q 10 false (.one 11 false .nil))))))) (.one 3 true (.q 6 false (.q 7 false (.one 8 true (.q 9 false (.q 10 false (.one 11 false .nil)))))))))))) (by kernel_rfl) (by kernel_rfl) (by kernel_rfl) ?_ ?_
                        · simp [go_sem, ↓IntWalk.iteOmega, *]
                        repeat (first | (refine wpTr_qf (v := ?_) rfl rfl ?_ ?_; rotate_left; focus (intro w; go_simp; (try (with_reducible rfl)); done); try simp only [List.getElem_toArray, List.getElem_cons_zero, List.getElem_cons_succ, Act.put, List.setIfInBounds_toArray, List.set_cons_zero, List.set_cons_succ]) | (refine wpTr_qt (v := ?_) rfl rfl ?_ ?_; rotate_left; focus (intro w hSw; (try dsimp only at hSw); go_simp; (try (with_reducible rfl)); done); try simp only [List.getElem_toArray, List.getElem_cons_zero, List.getElem_cons_succ, Act.put, List.setIfInBounds_toArray, List.set_cons_zero, List.set_cons_succ]))
                        refine wpTr_two rfl rfl rfl rfl ?_ ?_
                        · intro K hK
                          go_simp
                          refine hK.out _ _ trivial ?_
                          clear hK K
                          repeat (first | (refine wpTr_qf (v := ?_) rfl rfl ?_ ?_; rotate_left; focus (intro w; go_simp; (try (with_reducible rfl)); done); try simp only [List.getElem_toArray, List.getElem_cons_zero, List.getElem_cons_succ, Act.put, List.setIfInBounds_toArray, List.set_cons_zero, List.set_cons_succ]) | (refine wpTr_qt (v := ?_) rfl rfl ?_ ?_; rotate_left; focus (intro w hSw; (try dsimp only at hSw); go_simp; (try (with_reducible rfl)); done); try simp only [List.getElem_toArray, List.getElem_cons_zero, List.getElem_cons_succ, Act.put, List.setIfInBounds_toArray, List.set_cons_zero, List.set_cons_succ]))
                          refine wpTr_two rfl rfl rfl rfl ?_ ?_
                          · intro K hK
                            go_simp
                            refine hK.out _ _ trivial ?_
                            clear hK K
                            refine wpTr_one rfl rfl (fun K hK => ?_)
                            go_simp
                            refine hK.out _ _ (fun _ => by simp [go_sem, ↓IntWalk.iteOmega, *]) ?_
                            clear hK K
                            repeat (first | (refine wpTr_qf (v := ?_) rfl rfl ?_ ?_; rotate_left; focus (intro w; go_simp; (try (with_reducible rfl)); done); try simp only [List.getElem_toArray, List.getElem_cons_zero, List.getElem_cons_succ, Act.put, List.setIfInBounds_toArray, List.set_cons_zero, List.set_cons_succ]) | (refine wpTr_qt (v := ?_) rfl rfl ?_ ?_; rotate_left; focus (intro w hSw; (try dsimp only at hSw); go_simp; (try (with_reducible rfl)); done); try simp only [List.getElem_toArray, List.getElem_cons_zero, List.getElem_cons_succ, Act.put, List.setIfInBounds_toArray, List.set_cons_zero, List.set_cons_succ]))
                            refine wpTr_one rfl rfl (fun K hK => ?_)
                            go_simp
                            refine hK.out _ _ (fun h => by cases h) ?_
                            clear hK K
                            refine wpTr_nil ?_
                            refine NoPanic.normal ?_
                            refine ⟨rfl, wr.heap.size, wr.heap.size + 1, by omega, by omega, by omega, ⟨?_, fun i hi => ?_, fun i hi => ?_⟩, ⟨?_, fun i hi => ?_, fun i hi => ?_⟩, ?_, fun c0 c1 c2 c3 hb => ?_, ?_⟩
                            rotate_left 8
                            simp only [Act.put, List.setIfInBounds_toArray, List.set_cons_zero, List.set_cons_succ]
                            simp <;> omega
                            simp [go_sem, ↓IntWalk.iteOmega, HS2.out, hi, made1]
                            simp [go_sem, ↓IntWalk.iteOmega]
                            simp <;> omega
                            simp [go_sem, ↓IntWalk.iteOmega, HS2.out, hi, made1]
                            simp [go_sem, ↓IntWalk.iteOmega]
                            (repeat (first | with_reducible exact KeptL.refl _ _ _ | with_reducible refine KeptL.ex ?_ _ | with_reducible refine KeptL.al ?_ _ | with_reducible refine KeptL.drew ?_ | with_reducible refine KeptL.set ?_ (by first | exact H5.out) _))
                            have hb2 : ∀ z : Obj, Below wr.heap.size wr (wr.alloc z) := fun z => (Below.rf _).al _
                            refine ⟨by simp; omega, fun i hi => ?_, fun i hi => ?_⟩
                            have g0 := hb.is 0 (by omega)
                            have g1 := hb.is 1 (by omega)
                            rcases (by omega : i = 0 ∨ i = 1 ∨ i = 2 ∨ i = 3) with rfl | rfl | rfl | rfl <;> simp [go_sem, ↓IntWalk.iteOmega, fc, f2, f3] <;> first | exact g0 | exact g1
                            have g2 := hb.fz i hi
                            simp [go_sem, ↓IntWalk.iteOmega]
                            exact g2
                          · intro K hK
                            go_simp
                            refine hK.out _ _ trivial ?_
                            clear hK K
                            refine wpTr_one rfl rfl (fun K hK => ?_)
                            go_simp
                            refine hK.out _ _ (fun _ => by simp [go_sem, ↓IntWalk.iteOmega, *]) ?_
                            clear hK K
                            repeat (first | (refine wpTr_qf (v := ?_) rfl rfl ?_ ?_; rotate_left; focus (intro w; go_simp; (try (with_reducible rfl)); done); try simp only [List.getElem_toArray, List.getElem_cons_zero, List.getElem_cons_succ, Act.put, List.setIfInBounds_toArray, List.set_cons_zero, List.set_cons_succ]) | (refine wpTr_qt (v := ?_) rfl rfl ?_ ?_; rotate_left; focus (intro w hSw; (try dsimp only at hSw); go_simp; (try (with_reducible rfl)); done); try simp only [List.getElem_toArray, List.getElem_cons_zero, List.getElem_cons_succ, Act.put, List.setIfInBounds_toArray, List.set_cons_zero, List.set_cons_succ]))
                            refine wpTr_one rfl rfl (fun K hK => ?_)
                            go_simp
                            refine hK.out _ _ (fun h => by cases h) ?_
                            clear hK K
                            refine wpTr_nil ?_
                            refine NoPanic.normal ?_
                            refine ⟨rfl, wr.heap.size, wr.heap.size + 1, by omega, by omega, by omega, ⟨?_, fun i hi => ?_, fun i hi => ?_⟩, ⟨?_, fun i hi => ?_, fun i hi => ?_⟩, ?_, fun c0 c1 c2 c3 hb => ?_, ?_⟩
                            rotate_left 8
                            simp only [Act.put, List.setIfInBounds_toArray, List.set_cons_zero, List.set_cons_succ]
                            simp <;> omega
                            simp [go_sem, ↓IntWalk.iteOmega, HS2.out, hi, made1]
                            simp [go_sem, ↓IntWalk.iteOmega]
                            simp <;> omega
                            simp [go_sem, ↓IntWalk.iteOmega, HS2.out, hi, made1]
                            simp [go_sem, ↓IntWalk.iteOmega]
                            (repeat (first | with_reducible exact KeptL.refl _ _ _ | with_reducible refine KeptL.ex ?_ _ | with_reducible refine KeptL.al ?_ _ | with_reducible refine KeptL.drew ?_ | with_reducible refine KeptL.set ?_ (by first | exact H5.out) _))
                            have hb2 : ∀ z : Obj, Below wr.heap.size wr (wr.alloc z) := fun z => (Below.rf _).al _
                            refine ⟨by simp; omega, fun i hi => ?_, fun i hi => ?_⟩
                            have g0 := hb.is 0 (by omega)
                            have g1 := hb.is 1 (by omega)
                            rcases (by omega : i = 0 ∨ i = 1 ∨ i = 2 ∨ i = 3) with rfl | rfl | rfl | rfl <;> simp [go_sem, ↓IntWalk.iteOmega, fc, f2, f3] <;> first | exact g0 | exact g1
                            have g2 := hb.fz i hi
                            simp [go_sem, ↓IntWalk.iteOmega]
                            exact g2
                        · intro K hK
                          go_simp
                          refine hK.out _ _ trivial ?_
                          clear hK K
                          refine wpTr_one rfl rfl (fun K hK => ?_)
                          go_simp
                          refine hK.out _ _ (fun _ => by simp [go_sem, ↓IntWalk.iteOmega, *]) ?_
                          clear hK K
                          repeat (first | (refine wpTr_qf (v := ?_) rfl rfl ?_ ?_; rotate_left; focus (intro w; go_simp; (try (with_reducible rfl)); done); try simp only [List.getElem_toArray, List.getElem_cons_zero, List.getElem_cons_succ, Act.put, List.setIfInBounds_toArray, List.set_cons_zero, List.set_cons_succ]) | (refine wpTr_qt (v := ?_) rfl rfl ?_ ?_; rotate_left; focus (intro w hSw; (try dsimp only at hSw); go_simp; (try (with_reducible rfl)); done); try simp only [List.getElem_toArray, List.getElem_cons_zero, List.getElem_cons_succ, Act.put, List.setIfInBounds_toArray, List.set_cons_zero, List.set_cons_succ]))
                          refine wpTr_one rfl rfl (fun K hK => ?_)
                          go_simp
                          refine hK.out _ _ (fun _ => by simp [go_sem, ↓IntWalk.iteOmega, *]) ?_
                          clear hK K
                          repeat (first | (refine wpTr_qf (v := ?_) rfl rfl ?_ ?_; rotate_left; focus (intro w; go_simp; (try (with_reducible rfl)); done); try simp only [List.getElem_toArray, List.getElem_cons_zero, List.getElem_cons_succ, Act.put, List.setIfInBounds_toArray, List.set_cons_zero, List.set_cons_succ]) | (refine wpTr_qt (v := ?_) rfl rfl ?_ ?_; rotate_left; focus (intro w hSw; (try dsimp only at hSw); go_simp; (try (with_reducible rfl)); done); try simp only [List.getElem_toArray, List.getElem_cons_zero, List.getElem_cons_succ, Act.put, List.setIfInBounds_toArray, List.set_cons_zero, List.set_cons_succ]))
                          refine wpTr_one rfl rfl (fun K hK => ?_)
                          go_simp
                          refine hK.out _ _ (fun h => by cases h) ?_
                          clear hK K
                          refine wpTr_nil ?_
                          refine NoPanic.normal ?_
                          refine ⟨rfl, wr.heap.size + 1, wr.heap.size, by omega, by omega, by omega, ⟨?_, fun i hi => ?_, fun i hi => ?_⟩, ⟨?_, fun i hi => ?_, fun i hi => ?_⟩, ?_, fun c0 c1 c2 c3 hb => ?_, ?_⟩
                          rotate_left 8
                          simp only [Act.put, List.setIfInBounds_toArray, List.set_cons_zero, List.set_cons_succ]
                          simp <;> omega
                          simp [go_sem, ↓IntWalk.iteOmega, HS2.out, hi, made1]
                          simp [go_sem, ↓IntWalk.iteOmega]
                          simp <;> omega
                          simp [go_sem, ↓IntWalk.iteOmega, HS2.out, hi, made1]
                          simp [go_sem, ↓IntWalk.iteOmega]
                          (repeat (first | with_reducible exact KeptL.refl _ _ _ | with_reducible refine KeptL.ex ?_ _ | with_reducible refine KeptL.al ?_ _ | with_reducible refine KeptL.drew ?_ | with_reducible refine KeptL.set ?_ (by first | exact H5.out) _))
                          have hb2 : ∀ z : Obj, Below wr.heap.size wr (wr.alloc z) := fun z => (Below.rf _).al _
                          refine ⟨by simp; omega, fun i hi => ?_, fun i hi => ?_⟩
                          have g0 := hb.is 0 (by omega)
                          have g1 := hb.is 1 (by omega)
                          rcases (by omega : i = 0 ∨ i = 1 ∨ i = 2 ∨ i = 3) with rfl | rfl | rfl | rfl <;> simp [go_sem, ↓IntWalk.iteOmega, fc, f2, f3] <;> first | exact g0 | exact g1
                          have g2 := hb.fz i hi
                          simp [go_sem, ↓IntWalk.iteOmega]
                          exact g2
                        --END 6
                      · rintro a' w3 ⟨nb, db, hn1, hn2, hn3, hbn, hbd, hk3, hbf, rfl⟩
                        simp only [Act.put, List.setIfInBounds_toArray, List.set_cons_zero, List.set_cons_succ]
                        have hsz : mo + 1 < wr.heap.size := J1.out.nb.ib.lt
                        have hl3 : ∀ x, x < wr.heap.size → upd (upd lb2 nb 8) db 9 x = lb2 x := fun x hx => (upd_ne _ _ (by omega)).trans (upd_ne _ _ (by omega))
                        have hF3 : NwF a P k r mo fb w w3 (upd (upd lb2 nb 8) db 9) (.slice bo n bc) bl (.slice po N pc) (.slice co (bayP pl bl n).length cc) (.slice (some ⟨nb, 0, none⟩) N N) (.slice (some ⟨db, 0, none⟩) N N) :=
                          ⟨J1.out.nb.keptL HM.out hk3 hl3 (fun x hx => by omega) J1.out.l0, fun x hx => (hl3 x (by omega)).trans (J1.out.l0 x hx), (hl3 _ J1.out.bf.lt).trans J1.out.l5, hbf _ _ _ _ J1.out.bf, HM.out⟩
                        have hP3 : LAt w3 (upd (upd lb2 nb 8) db 9) 6 2 (.slice po N pc) N (prow pl) := J2.out.of hk3.size (fun b h1 h2 => hk3.block b h1 (by rw [h2]; omega)) hl3
                        have hB3 : LAt w3 (upd (upd lb2 nb 8) db 9) 7 1 (.slice co (bayP pl bl n).length cc) (bayP pl bl n).length (irow (bayP pl bl n)) := J3.out.of hk3.size (fun b h1 h2 => hk3.block b h1 (by rw [h2]; omega)) hl3
                        have hD3 : NwD N nb db w3 (upd (upd lb2 nb 8) db 9) (fun _ => .slice none 0 0) (fun x => if x < 0 then nearP pl bl x N else []) (fun _ => 0) 0 (dist0 pl bl) := by
                          refine ⟨hN384.2, by rw [upd_ne _ _ hn3, upd_at], upd_at _ _ _, hbn, fun i hi => ?_, Nat.zero_le _, hbd.congr (fun i hi => by rw [if_neg (by omega)]), fun i hi => by omega⟩
                          rw [if_neg (by omega)]
                          exact LAt.nil _ _ _ _
                        have K1 := hid hF3
                        have K2 := hid hP3
                        have K3 := hid hB3
                        have K4 := hid hD3
                        generalize (upd (upd lb2 nb 8) db 9) = lb3 at *
                        clear hF3 hP3 hB3 hD3 hbf hbn hbd J1 J2 J3 f0 f2 f3 z2 z3 hfl H5 hs3 hs1 hr1 hl3
                        generalize (.slice co (bayP pl bl n).length cc : Value) = c1 at *
                        have f0 : w3.cell? ⟨fb, 0, none⟩ = some (.slice po N pc) := K1.out.bf.is 0 (by omega)
                        have hfl := K1.out.bf.lt
                        have hs3 := hk3.size
                        clear hk3
                        go_wp2
                        refine nd_loop a P k r mo fb N nb db n w w3 lb3 bo bc po pc bl pl c1 _ _ hN384 HM HNn HPB ⟨K1.out, K2.out, K3.out, K4.out⟩ _ _ _ _ _ _ _ _ _ _ _ _ _ _ _ _ _ _ _ _ _ _ _ _ _ _ _ _ _ _ _ _ _ _ _ _ _ _ _ _ _ _ _ _ _ _ _ _ _ _ _ _ _ _ _ _ _ _ _ _ _ _ _ _ _ _ _ _ _ _ _ _ _ _ _ _ _ _ _ _ _ _ _ _ _ _ _ _ _ _ _ _ _ _ _ _ _ _ _ _ _ _ _ _ _ _ _ _ _ _ _ _ _ _ _ _ _ _ _ _ _ _ _ _ _ _ _ _ _ _ _ _ _ _ _ _ _ _ _ _ _ _ _ _ _ _ _ _ _ _ _ _ _ _ _ _ _ _ _ _ _ _ _ _ _ _ _ _ _ _ _ _ _ _ _ _ _ _ _ _ _ _ _ _ _ _ _ _ _ _ _ _ _ _ _ _ _ _ _ _ _ _ _ _ _ _ _ _ _ _ _ _ _ _ _ _ _ _ _ _ _ _ _ _ _ _ _ _ _ _ _ _ _ _ _ _ _ _ _ _ _ _ _ _ _ _ _ _ _ _ _ _ _ _ _ _ _ _ _ _ _ _ _ _ _ _ _ _ _ _ _ _ _ _ _ _ _ _ _ _ _ _ _ _ _ _ _ _ _ _ _ _ _ _ _ _ _ _ _ _ _ _ _ _ _ _ _ _ _ _ _ _ _ _ _ _ _ _ _ _ _ _ _ _ _ _ _ _ _ _ _ _ _ _ _ _ _ _ _ _ _ _ _ _ _ _ _ _ _ _ _ _ _ _ _ _ _ _ _ _ _ _ _ _ _ _ _ _ _ _ _ _ _ _ _ _ _ ?_
                        intro a4 w4 hE
                        obtain ⟨lb2, hE⟩ := hE
                        obtain ⟨nv2, hE⟩ := hE
                        obtain ⟨dr2, hE⟩ := hE
                        obtain ⟨hND, hE⟩ := hE
                        obtain ⟨u28, hE⟩ := hE
                        obtain ⟨u29, hE⟩ := hE
                        obtain ⟨u30, hE⟩ := hE
                        obtain ⟨u31, hE⟩ := hE
                        obtain ⟨u32, hE⟩ := hE
                        obtain ⟨u33, hE⟩ := hE
                        obtain ⟨u228, hE⟩ := hE
                        obtain ⟨u229, hE⟩ := hE
                        obtain ⟨u230, hE⟩ := hE
                        obtain ⟨u231, hE⟩ := hE
                        obtain ⟨u232, hE⟩ := hE
                        obtain ⟨u233, hE⟩ := hE
                        obtain ⟨u234, hE⟩ := hE
                        obtain ⟨u235, hE⟩ := hE
                        obtain ⟨u236, hE⟩ := hE
                        obtain ⟨u237, hE⟩ := hE
                        obtain ⟨u238, hE⟩ := hE
                        obtain ⟨u239, hE⟩ := hE
                        obtain ⟨u240, hE⟩ := hE
                        obtain ⟨u241, hE⟩ := hE
                        obtain ⟨u242, hE⟩ := hE
                        obtain ⟨u243, hE⟩ := hE
                        obtain ⟨u244, hE⟩ := hE
                        obtain ⟨u245, hE⟩ := hE
                        obtain ⟨u246, hE⟩ := hE
                        obtain ⟨u247, hE⟩ := hE
                        obtain ⟨u248, hE⟩ := hE
                        obtain ⟨u249, hE⟩ := hE
                        obtain ⟨u250, hE⟩ := hE
                        obtain ⟨u251, hE⟩ := hE
                        obtain ⟨u252, hE⟩ := hE
                        obtain ⟨u253, hE⟩ := hE
                        obtain ⟨u254, hE⟩ := hE
                        obtain ⟨u255, hE⟩ := hE
                        obtain ⟨u256, hE⟩ := hE
                        obtain ⟨u257, hE⟩ := hE
                        obtain ⟨u258, hE⟩ := hE
                        obtain ⟨u259, hE⟩ := hE
                        obtain ⟨u260, hE⟩ := hE
                        obtain ⟨u261, hE⟩ := hE
                        obtain ⟨u262, hE⟩ := hE
                        obtain ⟨u263, hE⟩ := hE
                        obtain ⟨u264, hE⟩ := hE
                        obtain ⟨u265, hE⟩ := hE
                        obtain ⟨u266, hE⟩ := hE
                        obtain ⟨u267, hE⟩ := hE
                        obtain ⟨u268, hE⟩ := hE
                        obtain ⟨u269, hE⟩ := hE
                        obtain ⟨u270, hE⟩ := hE
                        obtain ⟨u271, hE⟩ := hE
                        obtain ⟨u272, hE⟩ := hE
                        obtain ⟨u273, hE⟩ := hE
                        obtain ⟨u274, hE⟩ := hE
                        obtain ⟨u275, hE⟩ := hE
                        obtain ⟨u276, hE⟩ := hE
                        obtain ⟨u277, hE⟩ := hE
                        obtain ⟨u278, hE⟩ := hE
                        obtain ⟨u279, hE⟩ := hE
                        obtain ⟨u280, hE⟩ := hE
                        obtain ⟨u281, hE⟩ := hE
                        obtain ⟨u282, hE⟩ := hE
                        obtain ⟨u283, hE⟩ := hE
                        obtain ⟨u284, hE⟩ := hE
                        obtain ⟨u285, hE⟩ := hE
                        obtain ⟨u286, hE⟩ := hE
                        obtain ⟨u287, hE⟩ := hE
                        obtain ⟨u288, hE⟩ := hE
                        obtain ⟨u289, hE⟩ := hE
                        obtain ⟨u290, hE⟩ := hE
                        obtain ⟨u291, hE⟩ := hE
                        obtain ⟨u292, hE⟩ := hE
                        obtain ⟨u293, hE⟩ := hE
                        obtain ⟨u294, hE⟩ := hE
                        obtain ⟨u295, hE⟩ := hE
                        obtain ⟨u296, hE⟩ := hE
                        obtain ⟨u297, hE⟩ := hE
                        obtain ⟨u298, hE⟩ := hE
                        obtain ⟨u299, hE⟩ := hE
                        obtain ⟨u300, hE⟩ := hE
                        obtain ⟨u301, hE⟩ := hE
                        obtain ⟨u302, hE⟩ := hE
                        obtain ⟨u303, hE⟩ := hE
                        obtain ⟨u304, hE⟩ := hE
                        obtain ⟨u305, hE⟩ := hE
                        obtain ⟨u306, hE⟩ := hE
                        obtain ⟨u307, hE⟩ := hE
                        obtain ⟨u308, hE⟩ := hE
                        obtain ⟨u309, hE⟩ := hE
                        obtain ⟨u310, hE⟩ := hE
                        obtain ⟨u311, hE⟩ := hE
                        obtain ⟨u312, hE⟩ := hE
                        obtain ⟨u313, hE⟩ := hE
                        obtain ⟨u314, hE⟩ := hE
                        obtain ⟨u315, hE⟩ := hE
                        obtain ⟨u316, hE⟩ := hE
                        obtain ⟨u317, hE⟩ := hE
                        obtain ⟨u318, hE⟩ := hE
                        obtain ⟨u319, hE⟩ := hE
                        obtain ⟨u320, hE⟩ := hE
                        obtain ⟨u321, hE⟩ := hE
                        obtain ⟨u322, hE⟩ := hE
                        obtain ⟨u323, hE⟩ := hE
                        obtain ⟨u324, hE⟩ := hE
                        subst hE
                        have J1 := hid hND.f
                        have J3 := hid hND.l
                        have J4 := hid hND.d
                        clear hND K1 K2 K3 K4 f0 hfl hs3
                        go_wp2
                        refine fw_loop a P k r mo fb N nb db n w w4 lb2 bo bc po pc bl pl c1 nv2 dr2 hN384 ⟨J1.out, J3.out, J4.out⟩ _ _ _ _ _ _ _ _ _ _ _ _ _ _ _ _ _ _ _ _ _ _ _ _ _ _ _ _ _ _ _ _ _ _ _ _ _ _ _ _ _ _ _ _ _ _ _ _ _ _ _ _ _ _ _ _ _ _ _ _ _ _ _ _ _ _ _ _ _ _ _ _ _ _ _ _ _ _ _ _ _ _ _ _ _ _ _ _ _ _ _ _ _ _ _ _ _ _ _ _ _ _ _ _ _ _ _ _ _ _ _ _ _ _ _ _ _ _ _ _ _ _ _ _ _ _ _ _ _ _ _ _ _ _ _ _ _ _ _ _ _ _ _ _ _ _ _ _ _ _ _ _ _ _ _ _ _ _ _ _ _ _ _ _ _ _ _ _ _ _ _ _ _ _ _ _ _ _ _ _ _ _ _ _ _ _ _ _ _ _ _ _ _ _ _ _ _ _ _ _ _ _ _ _ _ _ _ _ _ _ _ _ _ _ _ _ _ _ _ _ _ _ _ _ _ _ _ _ _ _ _ _ _ _ _ _ _ _ _ _ _ _ _ _ _ _ _ _ _ _ _ _ _ _ _ _ _ _ _ _ _ _ _ _ _ _ _ _ _ _ _ _ _ _ _ _ _ _ _ _ _ _ _ _ _ _ _ _ _ _ _ _ _ _ _ _ _ _ _ _ _ _ _ _ _ _ _ _ _ _ _ _ _ _ _ _ _ _ _ _ _ _ _ _ _ _ _ _ _ _ _ _ _ _ _ _ _ _ _ _ _ _ _ _ _ _ _ _ _ _ _ _ _ _ _ _ _ _ _ _ _ _ _ _ _ _ _ _ _ _ _ _ _ _ _ _ _ _ _ _ ?_
                        intro a5 w5 hE
                        obtain ⟨hFW, hE⟩ := hE
                        obtain ⟨u34, hE⟩ := hE
                        obtain ⟨u35, hE⟩ := hE
                        obtain ⟨u36, hE⟩ := hE
                        obtain ⟨u325, hE⟩ := hE
                        obtain ⟨u326, hE⟩ := hE
                        obtain ⟨u327, hE⟩ := hE
                        obtain ⟨u328, hE⟩ := hE
                        obtain ⟨u329, hE⟩ := hE
                        obtain ⟨u330, hE⟩ := hE
                        obtain ⟨u331, hE⟩ := hE
                        obtain ⟨u332, hE⟩ := hE
                        obtain ⟨u333, hE⟩ := hE
                        obtain ⟨u334, hE⟩ := hE
                        obtain ⟨u335, hE⟩ := hE
                        obtain ⟨u336, hE⟩ := hE
                        obtain ⟨u337, hE⟩ := hE
                        obtain ⟨u338, hE⟩ := hE
                        obtain ⟨u339, hE⟩ := hE
                        obtain ⟨u340, hE⟩ := hE
                        obtain ⟨u341, hE⟩ := hE
                        obtain ⟨u342, hE⟩ := hE
                        obtain ⟨u343, hE⟩ := hE
                        obtain ⟨u344, hE⟩ := hE
                        obtain ⟨u345, hE⟩ := hE
                        obtain ⟨u346, hE⟩ := hE
                        obtain ⟨u347, hE⟩ := hE
                        obtain ⟨u348, hE⟩ := hE
                        obtain ⟨u349, hE⟩ := hE
                        obtain ⟨u350, hE⟩ := hE
                        obtain ⟨u351, hE⟩ := hE
                        obtain ⟨u352, hE⟩ := hE
                        obtain ⟨u353, hE⟩ := hE
                        obtain ⟨u354, hE⟩ := hE
                        obtain ⟨u355, hE⟩ := hE
                        obtain ⟨u356, hE⟩ := hE
                        obtain ⟨u357, hE⟩ := hE
                        obtain ⟨u358, hE⟩ := hE
                        obtain ⟨u359, hE⟩ := hE
                        obtain ⟨u360, hE⟩ := hE
                        obtain ⟨u361, hE⟩ := hE
                        obtain ⟨u362, hE⟩ := hE
                        obtain ⟨u363, hE⟩ := hE
                        obtain ⟨u364, hE⟩ := hE
                        obtain ⟨u365, hE⟩ := hE
                        obtain ⟨u366, hE⟩ := hE
                        obtain ⟨u367, hE⟩ := hE
                        obtain ⟨u368, hE⟩ := hE
                        obtain ⟨u369, hE⟩ := hE
                        obtain ⟨u370, hE⟩ := hE
                        obtain ⟨u371, hE⟩ := hE
                        obtain ⟨u372, hE⟩ := hE
                        obtain ⟨u373, hE⟩ := hE
                        obtain ⟨u374, hE⟩ := hE
                        obtain ⟨u375, hE⟩ := hE
                        obtain ⟨u376, hE⟩ := hE
                        obtain ⟨u377, hE⟩ := hE
                        obtain ⟨u378, hE⟩ := hE
                        obtain ⟨u379, hE⟩ := hE
                        obtain ⟨u380, hE⟩ := hE
                        subst hE
                        have M1 := hid hFW.f
                        have M3 := hid hFW.l
                        have M4 := hid hFW.d
                        clear hFW J1 J3 J4
                        go_wp2
                        go_ret
                        rw [HE.out]
                        have hn2 : (FS.of a P k r bl).n = N := HFn.out.trans HNn.out
                        refine ⟨by rw [HM.out]; exact M1.out.nb.bel, fb, rfl, M1.out.ge, fun lab2 hl2 => newF_end (c0 := .slice none 0 0) (nv := nv2) (dr := dr2) M1.out HOK.out hn2.symm ?_ ?_ lab2 hl2⟩
                        · rw [HFb.out, HBn.out]; exact M3.out
                        · have := M4.out
                          rw [HFd.out, HFe.out, HNn.out]
                          refine { this with rn := fun i hi => ?_ }
                          have h9 := this.rn i hi
                          rw [if_pos hi] at h9
                          exact h9
end Go.Proofs.Qxb6500716a
