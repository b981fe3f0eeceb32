/-
  The floor, plain.
-/
import Derived.Test.Qxb6500716aFw
import Derived.Test.Qxb6500716aBm
namespace Go.Proofs.Qxb6500716a
open Go.RowKit Go.Maps
set_option linter.unusedSimpArgs false
set_option linter.unusedVariables false
set_option maxRecDepth 20000
set_option maxHeartbeats 4000000

/-- A set of pairs as a set of keys. -/
def pS (S : Int → Int → Prop) : Lit → Prop := fun kl => ∃ a b, I64 a ∧ I64 b ∧ kl = key2 a b ∧ S a b
theorem pS_at {S : Int → Int → Prop} {a b : Int} (ha : I64 a) (hb : I64 b) : pS S (key2 a b) ↔ S a b := by
  constructor
  · rintro ⟨c, d, hc, hd, e, h⟩
    obtain ⟨rfl, rfl⟩ := key2_inj ha hb hc hd e
    exact h
  · exact fun h => ⟨a, b, ha, hb, rfl, h⟩
theorem pS_put {S S' : Int → Int → Prop} {a b : Int} (ha : I64 a) (hb : I64 b) (h : ∀ c d, S' c d ↔ (c = a ∧ d = b) ∨ S c d) (kl : Lit) : (kl = key2 a b ∨ pS S kl) ↔ pS S' kl := by
  constructor
  · rintro (rfl | ⟨c, d, hc, hd, e, hs⟩)
    · exact ⟨a, b, ha, hb, rfl, (h a b).2 (Or.inl ⟨rfl, rfl⟩)⟩
    · exact ⟨c, d, hc, hd, e, (h c d).2 (Or.inr hs)⟩
  · rintro ⟨c, d, hc, hd, e, hs⟩
    rcases (h c d).1 hs with ⟨rfl, rfl⟩ | hs
    · exact Or.inl e
    · exact Or.inr ⟨c, d, hc, hd, e, hs⟩

/-- 'm[p] = true' for a pair. -/
theorem wpList_put_b (w : World) {ops : Array Oper} {rest : List Oper} {o : Oper} {a : Act} {Q : Exit → Act → World → Prop} (hg : o.guard = none) (m x v : Operand) (hop : o.op = Op.mapUpdate 133 m x v)
    (b n : Nat) (S S' : Int → Int → Prop) (r t : Int) (hm : a.eval m = .map (some b)) (h : BAt 113 w b n (pS S)) (hx : a.eval x = .agg #[.int .i64 (r), .int .i64 (t)]) (hv : a.eval v = .bool true)
    (hr : I64 r) (ht : I64 t) (hn : n < 1000000) (hS : ∀ c d, S' c d ↔ (c = r ∧ d = t) ∨ S c d)
    (hK : ∀ w', BAt 113 w' b (n + 1) (pS S') → w.grownBy w' (some b) → wpList Try.prog ops Q rest (a.put o.dst undef) w') : wpList Try.prog ops Q (o :: rest) a w := by
  refine wpList_plain hg fun K' hK' => ?_
  obtain ⟨w', hrun, r1, r2⟩ := h.put law113 Try.underlying133 (by omega) (key2_lit _ _) (key2_of hr ht)
  unfold Oper.wp
  simp [execOp, hop, hm, hx, hv, hrun, Result.andThen]
  exact hK' _ _ (hK w' (r1.congr (pS_put hr ht hS)) r2)
theorem wp_put_b (w : World) {o : Oper} {a : Act} {K : Act → World → Prop} {Q : Exit → Act → World → Prop} (m x v : Operand) (hop : o.op = Op.mapUpdate 133 m x v)
    (b n : Nat) (S S' : Int → Int → Prop) (r t : Int) (hm : a.eval m = .map (some b)) (h : BAt 113 w b n (pS S)) (hx : a.eval x = .agg #[.int .i64 (r), .int .i64 (t)]) (hv : a.eval v = .bool true)
    (hr : I64 r) (ht : I64 t) (hn : n < 1000000) (hS : ∀ c d, S' c d ↔ (c = r ∧ d = t) ∨ S c d)
    (hK : ∀ w', BAt 113 w' b (n + 1) (pS S') → w.grownBy w' (some b) → K (a.put o.dst undef) w') : Oper.wp Try.prog o a w K Q := by
  obtain ⟨w', hrun, r1, r2⟩ := h.put law113 Try.underlying133 (by omega) (key2_lit _ _) (key2_of hr ht)
  unfold Oper.wp
  simp [execOp, hop, hm, hx, hv, hrun, Result.andThen]
  exact hK w' (r1.congr (pS_put hr ht hS)) r2
theorem BAt.look2 {w : World} {b n : Nat} {S : Int → Int → Prop} (h : BAt 113 w b n (pS S)) {r t : Int} (hr : I64 r) (ht : I64 t) (x : Bool) (hx : S r t ↔ x = true) :
    (Instr.lookup 133 (.map (some b)) (.agg #[.int .i64 (r), .int .i64 (t)]) false).run Try.prog w = .ok (.bool x) w := h.look law113 Try.underlying133 (key2_lit _ _) (key2_of hr ht) x ((pS_at hr ht).trans hx)

/-- What is open ahead of the bays. -/
def lopn (A P W H : Nat) (r c : Int) : Prop := (0 ≤ c ∧ c < (W : Int) ∧ (r = 1 ∨ r = (H : Int) - 2)) ∨ (2 ≤ r ∧ r < (H : Int) - 2 ∧ ∃ a : Nat, a < A ∧ c = 1 + (a : Int) * (P : Int))
/-- The place of a bay. -/
def bpl (W H : Nat) (b : Int) : Int × Int := if (W : Int) ≤ b then ((H : Int) - 1, b - (W : Int)) else (0, b)
def lopnD (A P W H : Nat) (r c : Int) : Decidable (lopn A P W H r c) := by
  unfold lopn
  exact inferInstance
/-- The bays' places, if all is well. -/
def bayL (A P W H : Nat) : List Int → List (Int × Int) → Option (List (Int × Int))
  | [], bl => some bl
  | b :: l, bl => haveI := lopnD A P W H (bpl W H b).1 (bpl W H b).2; if b < 0 ∨ 2 * (W : Int) ≤ b ∨ lopn A P W H (bpl W H b).1 (bpl W H b).2 ∨ bpl W H b ∈ bl then none else bayL A P W H l (bl ++ [bpl W H b])
def opnP (A P W H : Nat) (bl : List (Int × Int)) (r c : Int) : Prop := lopn A P W H r c ∨ (r, c) ∈ bl
def opnD (A P W H : Nat) (bl : List (Int × Int)) (r c : Int) : Decidable (opnP A P W H bl r c) := by
  unfold opnP
  haveI := lopnD A P W H r c
  exact inferInstance
def opn (A P W H : Nat) (bl : List (Int × Int)) (r c : Int) : Bool := haveI := opnD A P W H bl r c; decide (opnP A P W H bl r c)
def isB (bl : List (Int × Int)) (p : Int × Int) : Bool := decide (p ∈ bl)
theorem opn_iff {A P W H : Nat} {bl : List (Int × Int)} {r c : Int} : opnP A P W H bl r c ↔ opn A P W H bl r c = true := by simp [opn]
theorem isB_iff {bl : List (Int × Int)} {p : Int × Int} : p ∈ bl ↔ isB bl p = true := by simp [isB]
section
variable (o : Int → Int → Bool)
def rowP (r : Nat) : Nat → List (Int × Int)
  | 0 => []
  | c + 1 => rowP r c ++ if o r c = true then [((r : Int), (c : Int))] else []
def rowsP (W : Nat) : Nat → List (Int × Int)
  | 0 => []
  | r + 1 => rowsP W r ++ rowP o r W
end
/-- The cells where p lies, among the first n. -/
def whereP (pl : List (Int × Int)) (p : Int × Int) : Nat → List Int
  | 0 => []
  | n + 1 => whereP pl p n ++ if pl[n]? = some p then [(n : Int)] else []
def bayP (pl bl : List (Int × Int)) : Nat → List Int
  | 0 => []
  | k + 1 => bayP pl bl k ++ match bl[k]? with | some p => whereP pl p pl.length | none => []
def plAt (pl : List (Int × Int)) (a : Nat) : Int × Int := pl.getD a (0, 0)
def adjP (pl bl : List (Int × Int)) (a b : Nat) : Bool :=
  decide (((plAt pl a).1 - (plAt pl b).1) * ((plAt pl a).1 - (plAt pl b).1) + ((plAt pl a).2 - (plAt pl b).2) * ((plAt pl a).2 - (plAt pl b).2) = 1) && !(isB bl (plAt pl a) && isB bl (plAt pl b))
def nearP (pl bl : List (Int × Int)) (a : Nat) : Nat → List Int
  | 0 => []
  | b + 1 => nearP pl bl a b ++ if adjP pl bl a b = true then [(b : Int)] else []
def dist0 (pl bl : List (Int × Int)) (a b : Nat) : Nat := if a = b then 0 else if adjP pl bl a b = true then 1 else 1048576
/-- A floor. -/
structure FS where
  n : Nat
  bays : List Int
  near : Nat → List Int
  dist : Nat → Nat → Nat
def FS.of (A P W H : Nat) (bl : List (Int × Int)) : FS :=
  let pl := rowsP (opn A P W H bl) W H
  ⟨pl.length, bayP pl bl bl.length, fun a => nearP pl bl a pl.length, fwN (dist0 pl bl) pl.length⟩
def wid (A P : Int) : Nat := ((A - 1) * P + 3).toNat
/-- What 'New' answers. -/
def FS.new (A S P : Int) (l : List Int) : Option FS :=
  if A < 1 ∨ 8 < A ∨ S < 1 ∨ 12 < S ∨ P < 2 ∨ 3 < P ∨ l.length < 1 ∨ 6 < l.length then none
  else (bayL A.toNat P.toNat (wid A P) (S + 4).toNat l []).map (FS.of A.toNat P.toNat (wid A P) (S + 4).toNat)

theorem rowP_len (o : Int → Int → Bool) (r : Nat) : ∀ c, (rowP o r c).length ≤ c
  | 0 => by simp [rowP]
  | c + 1 => by
    have := rowP_len o r c
    simp only [rowP, List.length_append]
    split <;> simp <;> omega
theorem rowsP_len (o : Int → Int → Bool) (W : Nat) : ∀ r, (rowsP o W r).length ≤ r * W
  | 0 => by simp [rowsP]
  | r + 1 => by
    have := rowsP_len o W r
    have := rowP_len o r W
    simp only [rowsP, List.length_append, Nat.add_mul, Nat.one_mul]
    omega
theorem rowP_mem (o : Int → Int → Bool) (r : Nat) (p : Int × Int) : ∀ c, p ∈ rowP o r c ↔ p.1 = r ∧ 0 ≤ p.2 ∧ p.2 < (c : Int) ∧ o p.1 p.2 = true
  | 0 => by simp [rowP]; omega
  | c + 1 => by
    simp only [rowP, List.mem_append, rowP_mem o r p c]
    constructor
    · rintro (h | h)
      · exact ⟨h.1, h.2.1, by omega, h.2.2.2⟩
      · split at h
        · rename_i ho
          simp at h
          subst h
          exact ⟨rfl, by simp, by simp only; omega, ho⟩
        · cases h
    · rintro ⟨h1, h2, h3, h4⟩
      by_cases e : p.2 = c
      · right
        rw [h1, e] at h4
        rw [if_pos h4]
        simp
        exact Prod.ext h1 e
      · exact Or.inl ⟨h1, h2, by omega, h4⟩
theorem rowsP_mem (o : Int → Int → Bool) (W : Nat) (p : Int × Int) : ∀ r, p ∈ rowsP o W r ↔ 0 ≤ p.1 ∧ p.1 < (r : Int) ∧ 0 ≤ p.2 ∧ p.2 < (W : Int) ∧ o p.1 p.2 = true
  | 0 => by simp [rowsP]; omega
  | r + 1 => by
    simp only [rowsP, List.mem_append, rowsP_mem o W p r, rowP_mem]
    constructor
    · rintro (⟨h1, h2, h3⟩ | ⟨h1, h3⟩)
      · exact ⟨h1, by omega, h3⟩
      · exact ⟨by omega, by omega, h3⟩
    · rintro ⟨h1, h2, h3⟩
      by_cases e : p.1 = r
      · exact Or.inr ⟨e, h3⟩
      · exact Or.inl ⟨h1, by omega, h3⟩
theorem rowP_nodup (o : Int → Int → Bool) (r : Nat) : ∀ c, (rowP o r c).Nodup
  | 0 => by simp [rowP]
  | c + 1 => by
    simp only [rowP]
    refine List.nodup_append.2 ⟨rowP_nodup o r c, ?_, ?_⟩
    · split <;> simp
    · intro a ha b hb
      rw [rowP_mem] at ha
      split at hb
      · simp at hb; subst hb
        intro e
        rw [e] at ha
        simp at ha
      · cases hb
theorem rowsP_nodup (o : Int → Int → Bool) (W : Nat) : ∀ r, (rowsP o W r).Nodup
  | 0 => by simp [rowsP]
  | r + 1 => by
    simp only [rowsP]
    refine List.nodup_append.2 ⟨rowsP_nodup o W r, rowP_nodup o r W, ?_⟩
    intro a ha b hb
    rw [rowsP_mem] at ha
    rw [rowP_mem] at hb
    intro e
    rw [e] at ha
    omega
theorem whereP_mem (pl : List (Int × Int)) (p : Int × Int) (x : Int) : ∀ n, x ∈ whereP pl p n ↔ ∃ k : Nat, k < n ∧ x = k ∧ pl[k]? = some p
  | 0 => by simp [whereP]
  | n + 1 => by
    simp only [whereP, List.mem_append, whereP_mem pl p x n]
    constructor
    · rintro (⟨k, h1, h2, h3⟩ | h)
      · exact ⟨k, by omega, h2, h3⟩
      · split at h
        · rename_i h3
          simp at h
          exact ⟨n, by omega, h, h3⟩
        · cases h
    · rintro ⟨k, h1, h2, h3⟩
      by_cases e : k = n
      · subst e; right; rw [if_pos h3]; simp [h2]
      · exact Or.inl ⟨k, by omega, h2, h3⟩
theorem whereP_le (pl : List (Int × Int)) (p : Int × Int) : ∀ n, (whereP pl p n).length ≤ n
  | 0 => by simp [whereP]
  | n + 1 => by
    have := whereP_le pl p n
    simp only [whereP, List.length_append]
    split <;> simp <;> omega
theorem bayP_le (pl bl : List (Int × Int)) : ∀ k, (bayP pl bl k).length ≤ k * pl.length
  | 0 => by simp [bayP]
  | k + 1 => by
    have := bayP_le pl bl k
    simp only [bayP, List.length_append, Nat.add_mul, Nat.one_mul]
    cases bl[k]? with
    | none => simp; omega
    | some p => have := whereP_le pl p pl.length; simp only; omega
theorem whereP_none (pl : List (Int × Int)) (p : Int × Int) : ∀ n, (∀ k, k < n → pl[k]? ≠ some p) → whereP pl p n = []
  | 0, _ => rfl
  | n + 1, h => by
    simp only [whereP]
    rw [whereP_none pl p n (fun k hk => h k (by omega)), if_neg (h n (by omega))]
    rfl
theorem whereP_one (pl : List (Int × Int)) (p : Int × Int) (hd : pl.Nodup) (i : Nat) (hi : pl[i]? = some p) : ∀ n, i < n → whereP pl p n = [(i : Int)]
  | 0, h => by omega
  | n + 1, h => by
    have inj : ∀ k, pl[k]? = some p → k = i := fun k hk => by
      have h1 := (List.getElem?_eq_some_iff.1 hi)
      have h2 := (List.getElem?_eq_some_iff.1 hk)
      obtain ⟨l1, e1⟩ := h1
      obtain ⟨l2, e2⟩ := h2
      rcases Nat.lt_trichotomy k i with h | h | h
      · exact absurd (e2.trans e1.symm) ((List.pairwise_iff_getElem.1 hd) k i l2 l1 h)
      · exact h
      · exact absurd (e1.trans e2.symm) ((List.pairwise_iff_getElem.1 hd) i k l1 l2 h)
    simp only [whereP]
    by_cases e : i = n
    · subst e
      rw [whereP_none pl p i (fun k hk h1 => by have := inj k h1; omega), if_pos hi]; rfl
    · rw [whereP_one pl p hd i hi n (by omega), if_neg (fun h1 => e (inj n h1).symm)]; rfl
/-- A bay's robots: one each. -/
theorem bayP_len {pl bl : List (Int × Int)} (hd : pl.Nodup) (h : ∀ p, p ∈ bl → p ∈ pl) : ∀ k, k ≤ bl.length → (bayP pl bl k).length = k ∧ ∀ x, x ∈ bayP pl bl k → 0 ≤ x ∧ x < (pl.length : Int)
  | 0, _ => by simp [bayP]
  | k + 1, hk => by
    obtain ⟨h1, h2⟩ := bayP_len hd h k (by omega)
    have hp : bl[k]? = some bl[k] := List.getElem?_eq_getElem (by omega)
    obtain ⟨i, hi, e⟩ := List.getElem_of_mem (h _ (List.getElem_mem (by omega : k < bl.length)))
    have h3 := whereP_one pl bl[k] hd i (by rw [List.getElem?_eq_getElem hi, e]) pl.length hi
    simp only [bayP, hp, h3]
    refine ⟨by simp [h1], fun x hx => ?_⟩
    rcases List.mem_append.1 hx with h4 | h4
    · exact h2 x h4
    · simp at h4; omega
theorem nearP_mem (pl bl : List (Int × Int)) (a : Nat) (x : Int) : ∀ n, x ∈ nearP pl bl a n ↔ ∃ b : Nat, b < n ∧ x = b ∧ adjP pl bl a b = true
  | 0 => by simp [nearP]
  | n + 1 => by
    simp only [nearP, List.mem_append, nearP_mem pl bl a x n]
    constructor
    · rintro (⟨k, h1, h2, h3⟩ | h)
      · exact ⟨k, by omega, h2, h3⟩
      · split at h
        · rename_i h3
          simp at h
          exact ⟨n, by omega, h, h3⟩
        · cases h
    · rintro ⟨k, h1, h2, h3⟩
      by_cases e : k = n
      · subst e; right; rw [if_pos h3]; simp [h2]
      · exact Or.inl ⟨k, by omega, h2, h3⟩
theorem nearP_len (pl bl : List (Int × Int)) (a : Nat) : ∀ n, (nearP pl bl a n).length ≤ n
  | 0 => by simp [nearP]
  | n + 1 => by
    have := nearP_len pl bl a n
    simp only [nearP, List.length_append]
    split <;> simp <;> omega
theorem adjP_self (pl bl : List (Int × Int)) (a : Nat) : adjP pl bl a a = false := by simp [adjP]
theorem dist0_zero (pl bl : List (Int × Int)) (a : Nat) : dist0 pl bl a a = 0 := by simp [dist0]
theorem dist0_pos (pl bl : List (Int × Int)) (a b : Nat) (h : a ≠ b) : 0 < dist0 pl bl a b := by unfold dist0; rw [if_neg h]; split <;> omega
theorem dist0_le (pl bl : List (Int × Int)) (a b : Nat) : dist0 pl bl a b ≤ 1048576 := by unfold dist0; split; omega; split <;> omega

/-- What the planner needs of a floor. -/
structure FOk (F : FS) : Prop where
  n : 1 ≤ F.n ∧ F.n ≤ 384
  nb : 1 ≤ F.bays.length ∧ F.bays.length ≤ 6
  bay : ∀ x, x ∈ F.bays → 0 ≤ x ∧ x < (F.n : Int)
  near : ∀ a x, x ∈ F.near a → 0 ≤ x ∧ x < (F.n : Int)
  nearL : ∀ a, (F.near a).length ≤ F.n
  le : ∀ a b, F.dist a b ≤ 1048576
  zero : ∀ a, F.dist a a = 0
  pos : ∀ a b, a ≠ b → 0 < F.dist a b
  tri : ∀ a b v, v < F.n → F.dist a b ≤ F.dist a v + F.dist v b
  one : ∀ a b : Nat, b < F.n → (F.dist a b = 1 ↔ (b : Int) ∈ F.near a)
theorem bays_spec {A P W H : Nat} : ∀ (l : List Int) (bl bl' : List (Int × Int)), bayL A P W H l bl = some bl' → bl'.length = bl.length + l.length ∧ (∀ p, p ∈ bl' → p ∈ bl ∨ ∃ b, 0 ≤ b ∧ b < 2 * (W : Int) ∧ p = bpl W H b)
  | [], bl, bl', h => by simp [bayL] at h; subst h; exact ⟨rfl, fun p hp => Or.inl hp⟩
  | b :: l, bl, bl', h => by
    unfold bayL at h
    split at h
    · cases h
    · rename_i hn
      obtain ⟨h1, h2⟩ := bays_spec l _ bl' h
      refine ⟨by rw [h1]; simp; omega, fun p hp => ?_⟩
      rcases h2 p hp with h3 | h3
      · rcases List.mem_append.1 h3 with h4 | h4
        · exact Or.inl h4
        · simp at h4
          exact Or.inr ⟨b, by omega, by omega, h4⟩
      · exact Or.inr h3
theorem FS.ok {A P W H : Nat} {l : List Int} {bl : List (Int × Int)} (hb : bayL A P W H l [] = some bl) (hl : 1 ≤ l.length ∧ l.length ≤ 6) (hH : 5 ≤ H ∧ H ≤ 16) (hW : W ≤ 24) : FOk (FS.of A P W H bl) := by
  obtain ⟨h1, h2⟩ := bays_spec l [] bl hb
  have hin : ∀ p, p ∈ bl → p ∈ rowsP (opn A P W H bl) W H := by
    intro p hp
    rw [rowsP_mem]
    rcases h2 p hp with h3 | ⟨b, h3, h4, rfl⟩
    · cases h3
    · have ho : opn A P W H bl (bpl W H b).1 (bpl W H b).2 = true := by
        exact opn_iff.1 (Or.inr hp)
      refine ⟨?_, ?_, ?_, ?_, ho⟩ <;> unfold bpl <;> split <;> simp only <;> omega
  have hlen := rowsP_len (opn A P W H bl) W H
  have hHW : H * W ≤ 384 := Nat.le_trans (Nat.mul_le_mul hH.2 hW) (by omega)
  have hbl := bayP_len (rowsP_nodup (opn A P W H bl) W H) hin bl.length (Nat.le_refl _)
  simp at h1
  have hz := dist0_zero (rowsP (opn A P W H bl) W H) bl
  have hp := dist0_pos (rowsP (opn A P W H bl) W H) bl
  refine ⟨⟨?_, ?_⟩, ⟨by simp only [FS.of]; rw [hbl.1]; omega, by simp only [FS.of]; rw [hbl.1]; omega⟩, ?_, ?_, ?_, ?_, ?_, ?_, ?_, ?_⟩
  · simp only [FS.of]
    cases hbb : bl with
    | nil => rw [hbb] at h1; simp at h1; omega
    | cons p bl2 =>
      rw [← hbb]
      have := hin p (by rw [hbb]; simp)
      exact List.length_pos_of_mem this
  · simp only [FS.of]; omega
  · exact hbl.2
  · intro a x hx
    simp only [FS.of] at hx ⊢
    obtain ⟨b, h3, h4, -⟩ := (nearP_mem _ _ _ _ _).1 hx
    omega
  · exact fun a => nearP_len _ _ _ _
  · exact fun a b => Nat.le_trans ((Fwd.all hz hp _).le a b) (dist0_le _ _ _ _)
  · exact fun a => (Fwd.all hz hp _).zero a
  · exact fun a b => (Fwd.all hz hp _).pos a b
  · exact fun a b v hv => fwN_tri hz hp _ v hv a b
  · intro a b hb'
    simp only [FS.of] at hb' ⊢
    rw [(Fwd.all hz hp _).one a b, nearP_mem]
    constructor
    · intro h
      unfold dist0 at h
      split at h
      · cases h
      · split at h
        · rename_i h3; exact ⟨b, hb', rfl, h3⟩
        · cases h
    · rintro ⟨b', h3, h4, h5⟩
      have : b' = b := by omega
      subst this
      unfold dist0
      rw [if_neg (fun e => by subst e; rw [adjP_self] at h5; cases h5), if_pos h5]
end Go.Proofs.Qxb6500716a
