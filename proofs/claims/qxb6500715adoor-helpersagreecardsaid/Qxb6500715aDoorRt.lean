/-
  The route's turns, plain.
-/
import Derived.Test.Qxb6500715aDoorTrl
namespace Go.Proofs.Qxb6500715aDoor
open Go.RowKit
set_option linter.unusedSimpArgs false
set_option linter.unusedVariables false

/-- One move along the straight line to (r', q'). -/
def tow (r q r' q' : Nat) : Nat × Nat :=
  if r < r' then (r + 1, q) else if r' < r then (r - 1, q) else if q < q' then (r, q + 1) else if q' < q then (r, q - 1) else (r, q)
/-- The moves between two places. -/
def dm (r q r' q' : Nat) : Nat := nab r r' + nab q q'
/-- The places on the way. -/
def leg : Nat → Nat → Nat → Nat → Nat → List (Nat × Nat)
  | 0, _, _, _, _ => []
  | n + 1, r, q, r', q' => tow r q r' q' :: leg n (tow r q r' q').1 (tow r q r' q').2 r' q'
/-- The places on the way over all turns. -/
def legs : Nat → Nat → List (Nat × Nat) → List (Nat × Nat)
  | _, _, [] => []
  | r, q, t :: ts => leg (dm r q t.1 t.2) r q t.1 t.2 ++ legs t.1 t.2 ts

/-- A drivable place. -/
def FP.drv (F : FP) (r q : Nat) : Prop := r < F.S + 4 ∧ q < F.W ∧ Qxb6500715aDoor.drv (F.kd (r * F.W + q)) = true
/-- A bay and its gate, in the one order or the other. -/
def FP.gt (F : FP) (r q r' : Nat) : Prop := F.drv r q ∧ F.kd (r * F.W + q) = 7 ∧ ((r = 0 ∧ r' = 1) ∨ (r = F.S + 3 ∧ r' = F.S + 2))
/-- The straight way is clear. -/
def FP.clr (F : FP) (r q r' q' : Nat) : Prop :=
  (r = r' ∧ isX F.S r ∧ q < F.W ∧ q' < F.W) ∨ (q = q' ∧ isAc F.A F.P q ∧ (1 ≤ r ∧ r ≤ F.S + 2) ∧ (1 ≤ r' ∧ r' ≤ F.S + 2)) ∨ (q = q' ∧ F.gt r q r') ∨ (q = q' ∧ F.gt r' q r) ∨ (r = r' ∧ q = q' ∧ F.drv r q)

section
variable {F : FP}
theorem onA_drv (hp : Pln F) {r q : Nat} (h : onA F.A F.P F.S r q) : F.drv r q := by
  obtain ⟨h1, h2, h3, h4⟩ := on_place hp h
  exact ⟨h1, h2, h3⟩
theorem ac_on (hp : Pln F) {r q : Nat} (h : isAc F.A F.P q) (h1 : 1 ≤ r) (h2 : r ≤ F.S + 2) : onA F.A F.P F.S r q := by
  have := isAc_lt h
  refine ⟨by omega, ?_⟩
  by_cases e1 : r = 1
  · exact Or.inl e1
  · by_cases e2 : r = F.S + 2
    · exact Or.inr (Or.inl e2)
    · exact Or.inr (Or.inr ⟨by omega, by omega, h⟩)
theorem x_on (hp : Pln F) {r q : Nat} (h : isX F.S r) (h1 : q < F.W) : onA F.A F.P F.S r q := by
  refine ⟨by rw [← hp.hW]; exact h1, ?_⟩
  rcases h with h | h
  · exact Or.inl h
  · exact Or.inr (Or.inl h)
theorem clr_refl {r q : Nat} (h : F.drv r q) : F.clr r q r q := Or.inr (Or.inr (Or.inr (Or.inr ⟨rfl, rfl, h⟩)))
theorem clr_lt {r q r' q' : Nat} (h : F.clr r q r' q') (hp : Pln F) : F.drv r' q' := by
  rcases h with ⟨rfl, h1, h2, h3⟩ | ⟨rfl, h1, h2, h3⟩ | ⟨rfl, h1, h2, h3⟩ | ⟨rfl, h1, h2, h3⟩ | ⟨rfl, rfl, h1⟩
  · exact onA_drv hp (x_on hp h1 h3)
  · exact onA_drv hp (ac_on hp h1 h3.1 h3.2)
  · refine onA_drv hp (x_on hp ?_ h1.2.1); omega
  · exact h1
  · exact h1

/-- Two drivable places one move apart, not both bays, are adjacent cells. -/
theorem drv_adj (hp : Pln F) {r q r' q' : Nat} (h : F.drv r q) (h' : F.drv r' q') (h7 : ¬ (F.kd (r * F.W + q) = 7 ∧ F.kd (r' * F.W + q') = 7)) (ho : one r q r' q') :
    F.id (r' * F.W + q') ∈ F.adj (F.id (r * F.W + q)) := by
  obtain ⟨g1, g2, g3, g4⟩ := id_spec hp.pl h.1 h.2.1 h.2.2
  refine adj_of hp g1 h'.1 h'.2.1 h'.2.2 (by unfold FP.isB; rw [g2]; exact h7) ?_
  unfold FP.row FP.col; rw [g3, g4]; exact ho

/-- One move on a clear way. -/
theorem clr_step (hp : Pln F) {r q r' q' : Nat} (h : F.clr r q r' q') (hd : F.drv r q) (hne : ¬ (r = r' ∧ q = q')) :
    F.clr (tow r q r' q').1 (tow r q r' q').2 r' q' ∧ F.drv (tow r q r' q').1 (tow r q r' q').2 ∧ dm (tow r q r' q').1 (tow r q r' q').2 r' q' + 1 = dm r q r' q' ∧ F.id ((tow r q r' q').1 * F.W + (tow r q r' q').2) ∈ F.adj (F.id (r * F.W + q)) := by
  have hS := hp.lay.hS
  -- two places on the aisles one move apart
  have fin : ∀ r2 q2, tow r q r' q' = (r2, q2) → onA F.A F.P F.S r q → onA F.A F.P F.S r2 q2 → one r q r2 q2 → dm r2 q2 r' q' + 1 = dm r q r' q' → F.clr r2 q2 r' q' →
      F.clr (tow r q r' q').1 (tow r q r' q').2 r' q' ∧ F.drv (tow r q r' q').1 (tow r q r' q').2 ∧ dm (tow r q r' q').1 (tow r q r' q').2 r' q' + 1 = dm r q r' q' ∧ F.id ((tow r q r' q').1 * F.W + (tow r q r' q').2) ∈ F.adj (F.id (r * F.W + q)) := by
    intro r2 q2 e o1 o2 ho hdm hc
    rw [e]
    refine ⟨hc, onA_drv hp o2, hdm, drv_adj hp hd (onA_drv hp o2) (fun h7 => ?_) ho⟩
    exact (on_place hp o2).2.2.2 h7.2
  rcases h with ⟨rfl, h1, h2, h3⟩ | ⟨rfl, h1, h2, h3⟩ | ⟨rfl, h1, h2, h3⟩ | ⟨rfl, h1, h2, h3⟩ | ⟨rfl, rfl, h1⟩
  · rcases (by omega : q < q' ∨ q' < q) with hq | hq
    · exact fin r (q + 1) (by simp [tow, hq]) (x_on hp h1 h2) (x_on hp h1 (by omega)) (by unfold one; omega) (by unfold dm nab; omega) (Or.inl ⟨rfl, h1, by omega, h3⟩)
    · exact fin r (q - 1) (by simp [tow, hq, Nat.not_lt.2 (Nat.le_of_lt hq)]) (x_on hp h1 h2) (x_on hp h1 (by omega)) (by unfold one; omega) (by unfold dm nab; omega) (Or.inl ⟨rfl, h1, by omega, h3⟩)
  · rcases (by omega : r < r' ∨ r' < r) with hr | hr
    · exact fin (r + 1) q (by simp [tow, hr]) (ac_on hp h1 h2.1 h2.2) (ac_on hp h1 (by omega) (by omega)) (by unfold one; omega) (by unfold dm nab; omega) (Or.inr (Or.inl ⟨rfl, h1, by omega, h3⟩))
    · exact fin (r - 1) q (by simp [tow, hr, Nat.not_lt.2 (Nat.le_of_lt hr)]) (ac_on hp h1 h2.1 h2.2) (ac_on hp h1 (by omega) (by omega)) (by unfold one; omega) (by unfold dm nab; omega) (Or.inr (Or.inl ⟨rfl, h1, by omega, h3⟩))
  · -- out of the bay
    have ho : onA F.A F.P F.S r' q := x_on hp (by omega) hd.2.1
    have e : tow r q r' q = (r', q) := by
      unfold tow
      rcases h3 with ⟨a, b⟩ | ⟨a, b⟩
      · rw [if_pos (by omega), a, b]
      · rw [if_neg (by omega), if_pos (by omega), a, b]; rfl
    rw [e]
    refine ⟨clr_refl (onA_drv hp ho), onA_drv hp ho, by unfold dm nab; omega, drv_adj hp hd (onA_drv hp ho) (fun h7 => (on_place hp ho).2.2.2 h7.2) (by unfold one; omega)⟩
  · -- into the bay
    have ho : onA F.A F.P F.S r q := x_on hp (by omega) hd.2.1
    have e : tow r q r' q = (r', q) := by
      unfold tow
      rcases h3 with ⟨a, b⟩ | ⟨a, b⟩
      · rw [if_neg (by omega), if_pos (by omega), a, b]
      · rw [if_pos (by omega), a, b]
    rw [e]
    refine ⟨clr_refl h1, h1, by unfold dm nab; omega, drv_adj hp hd h1 (fun h7 => (on_place hp ho).2.2.2 h7.1) (by unfold one; omega)⟩
  · exact absurd ⟨rfl, rfl⟩ hne

/-- The turns' ways are clear. -/
def FP.chn (F : FP) : Nat → Nat → List (Nat × Nat) → Prop
  | _, _, [] => True
  | r, q, t :: ts => F.clr r q t.1 t.2 ∧ F.chn t.1 t.2 ts
/-- The moves over all turns. -/
def plen : Nat → Nat → List (Nat × Nat) → Nat
  | _, _, [] => 0
  | r, q, t :: ts => dm r q t.1 t.2 + plen t.1 t.2 ts
/-- The last place. -/
def lst : Nat → Nat → List (Nat × Nat) → Nat × Nat
  | r, q, [] => (r, q)
  | _, _, t :: ts => lst t.1 t.2 ts
/-- A place's cell. -/
def FP.idp (F : FP) (p : Nat × Nat) : Nat := F.id (p.1 * F.W + p.2)

theorem dm_zero {r q r' q' : Nat} (h : dm r q r' q' = 0) : r = r' ∧ q = q' := by unfold dm nab at h; omega
theorem dm_self (r q : Nat) : dm r q r q = 0 := by unfold dm nab; omega

theorem leg_trail (hp : Pln F) (a : Nat) : ∀ (n r q r' q' : Nat) (T : List Nat), dm r q r' q' = n → F.clr r q r' q' → F.drv r q → Trail F a (F.idp (r, q)) T → Trail F a (F.idp (r', q')) (T ++ (leg n r q r' q').map F.idp) := by
  intro n
  induction n with
  | zero =>
    intro r q r' q' T h0 _ _ hT
    obtain ⟨rfl, rfl⟩ := dm_zero h0
    simpa [leg] using hT
  | succ n ih =>
    intro r q r' q' T h0 hc hd hT
    have hne : ¬ (r = r' ∧ q = q') := by
      rintro ⟨rfl, rfl⟩
      rw [dm_self] at h0; omega
    obtain ⟨c1, c2, c3, c4⟩ := clr_step hp hc hd hne
    have := ih _ _ r' q' (T ++ [F.idp (tow r q r' q')]) (by omega) c1 c2 (hT.push c4 ((id_spec hp.pl c2.1 c2.2.1 c2.2.2).1))
    simpa [leg] using this
theorem leg_len : ∀ (n r q r' q' : Nat), (leg n r q r' q').length = n := by
  intro n
  induction n with
  | zero => intros; rfl
  | succ n ih => intro r q r' q'; simp [leg, ih]
theorem legs_len : ∀ (U : List (Nat × Nat)) (r q : Nat), (legs r q U).length = plen r q U := by
  intro U
  induction U with
  | nil => intros; rfl
  | cons t ts ih => intro r q; simp [legs, plen, leg_len, ih]
theorem legs_trail (hp : Pln F) (a : Nat) : ∀ (U : List (Nat × Nat)) (r q : Nat) (T : List Nat), F.chn r q U → F.drv r q → Trail F a (F.idp (r, q)) T → Trail F a (F.idp (lst r q U)) (T ++ (legs r q U).map F.idp) := by
  intro U
  induction U with
  | nil => intro r q T _ _ hT; simpa [legs, lst] using hT
  | cons t ts ih =>
    intro r q T hc hd hT
    have h1 := leg_trail hp a _ r q t.1 t.2 T rfl hc.1 hd hT
    have h2 := ih t.1 t.2 _ hc.2 (clr_lt hc.1 hp) h1
    simpa [legs, lst] using h2

/-- The corners between two places on the aisles. -/
def bnd (A P S r1 q1 r2 q2 : Nat) : List (Nat × Nat) :=
  if isX S r1 ∧ isX S r2 then (if r1 = r2 then [] else [(r1, cCol A P (min q1 q2) (max q1 q2)), (r2, cCol A P (min q1 q2) (max q1 q2))])
  else if q1 = q2 then []
  else if isX S r1 then [(r1, q2)]
  else if isX S r2 then [(r2, q1)]
  else if (S + 2 - r1) + (S + 2 - r2) < (r1 - 1) + (r2 - 1) then [(S + 2, q1), (S + 2, q2)]
  else [(1, q1), (1, q2)]

/-- The ways over the corners are clear and as long as the distance. -/
theorem bnd_spec (hp : Pln F) {r1 q1 r2 q2 : Nat} (h1 : onA F.A F.P F.S r1 q1) (h2 : onA F.A F.P F.S r2 q2) (V : List (Nat × Nat)) (hV : F.chn r2 q2 V) :
    F.chn r1 q1 (bnd F.A F.P F.S r1 q1 r2 q2 ++ (r2, q2) :: V) ∧ plen r1 q1 (bnd F.A F.P F.S r1 q1 r2 q2 ++ (r2, q2) :: V) = ad F.A F.P F.S r1 q1 r2 q2 + plen r2 q2 V := by
  have hS := hp.lay.hS
  have hA := hp.lay.hA
  have hW := hp.hW
  have w1 : q1 < F.W := by rw [hW]; exact h1.1
  have w2 : q2 < F.W := by rw [hW]; exact h2.1
  have g1 := h1.2
  have g2 := h2.2
  unfold bnd
  by_cases x1 : isX F.S r1
  · by_cases x2 : isX F.S r2
    · rw [if_pos ⟨x1, x2⟩]
      by_cases h : r1 = r2
      · subst h
        rw [if_pos rfl, ad_same x1 rfl]
        exact ⟨⟨Or.inl ⟨rfl, x1, w1, w2⟩, hV⟩, by simp [plen, dm, nab]⟩
      · rw [if_neg h, ad_diff x1 x2 h]
        have hac := cCol_isA (A := F.A) (P := F.P) (lo := min q1 q2) (hi := max q1 q2) hA.1 (by omega)
        unfold cX
        generalize cCol F.A F.P (min q1 q2) (max q1 q2) = x at *
        have hx := isAc_lt hac
        refine ⟨⟨Or.inl ⟨rfl, x1, w1, by omega⟩, Or.inr (Or.inl ⟨rfl, hac, by omega, by omega⟩), Or.inl ⟨rfl, x2, by omega, w2⟩, hV⟩, ?_⟩
        simp only [plen, dm, List.cons_append, List.nil_append]
        unfold nab; omega
    · rw [if_neg (fun h => x2 h.2), ad_xi x1 x2]
      have hac := h2.ac x2
      by_cases hq : q1 = q2
      · subst hq
        rw [if_pos rfl]
        exact ⟨⟨Or.inr (Or.inl ⟨rfl, hac, by omega, by omega⟩), hV⟩, by simp [plen, dm]⟩
      · rw [if_neg hq, if_pos x1]
        refine ⟨⟨Or.inl ⟨rfl, x1, w1, w2⟩, Or.inr (Or.inl ⟨rfl, hac, by omega, by omega⟩), hV⟩, ?_⟩
        simp only [plen, dm, List.cons_append, List.nil_append]
        unfold nab; omega
  · have hac1 := h1.ac x1
    rw [if_neg (fun h => x1 h.1)]
    by_cases x2 : isX F.S r2
    · rw [ad_ix x1 x2]
      by_cases hq : q1 = q2
      · subst hq
        rw [if_pos rfl]
        exact ⟨⟨Or.inr (Or.inl ⟨rfl, hac1, by omega, by omega⟩), hV⟩, by simp [plen, dm]⟩
      · rw [if_neg hq, if_neg x1, if_pos x2]
        refine ⟨⟨Or.inr (Or.inl ⟨rfl, hac1, by omega, by omega⟩), Or.inl ⟨rfl, x2, w1, w2⟩, hV⟩, ?_⟩
        simp only [plen, dm, List.cons_append, List.nil_append]
        unfold nab; omega
    · have hac2 := h2.ac x2
      by_cases hq : q1 = q2
      · subst hq
        rw [if_pos rfl, ad_iis x1 x2 rfl]
        exact ⟨⟨Or.inr (Or.inl ⟨rfl, hac1, by omega, by omega⟩), hV⟩, by simp [plen, dm, nab]⟩
      · rw [if_neg hq, if_neg x1, if_neg x2, ad_iid x1 x2 hq]
        split
        · refine ⟨⟨Or.inr (Or.inl ⟨rfl, hac1, by omega, by omega⟩), Or.inl ⟨rfl, Or.inr rfl, w1, w2⟩, Or.inr (Or.inl ⟨rfl, hac2, by omega, by omega⟩), hV⟩, ?_⟩
          simp only [plen, dm, List.cons_append, List.nil_append]
          unfold nab; omega
        · refine ⟨⟨Or.inr (Or.inl ⟨rfl, hac1, by omega, by omega⟩), Or.inl ⟨rfl, Or.inl rfl, w1, w2⟩, Or.inr (Or.inl ⟨rfl, hac2, by omega, by omega⟩), hV⟩, ?_⟩
          simp only [plen, dm, List.cons_append, List.nil_append]
          unfold nab; omega

/-- The turns of the route from a to b. -/
def FP.trn (F : FP) (a b : Nat) : List (Nat × Nat) :=
  if a = b then [] else (F.ar a, F.col a) :: (bnd F.A F.P F.S (F.ar a) (F.col a) (F.ar b) (F.col b) ++ [(F.ar b, F.col b), (F.row b, F.col b)])

theorem cell_drv (hp : Pln F) {c : Nat} (hc : c < F.N) : F.drv (F.row c) (F.col c) := by
  obtain ⟨h1, h2, h3, h4, h5, h6⟩ := pl_spec hp.pl hc
  exact ⟨h4, h5, by unfold FP.row FP.col; rw [h6]; exact h2⟩
/-- Between a cell and its anchor. -/
theorem anchor_clr (hp : Pln F) {c : Nat} (hc : c < F.N) : F.clr (F.row c) (F.col c) (F.ar c) (F.col c) ∧ F.clr (F.ar c) (F.col c) (F.row c) (F.col c) ∧ dm (F.row c) (F.col c) (F.ar c) (F.col c) = F.ex c ∧ dm (F.ar c) (F.col c) (F.row c) (F.col c) = F.ex c := by
  obtain ⟨c1, c2, c3, c4, c5⟩ := cell_on hp hc
  have hd := cell_drv hp hc
  have hS := hp.lay.hS
  by_cases hB : F.isB c
  · have hr : F.row c = 0 ∨ F.row c = F.S + 3 := by
      rcases c5 with h | h
      · exact h.2
      · exact absurd hB h.1
    have ha : (F.row c = 0 ∧ F.ar c = 1) ∨ (F.row c = F.S + 3 ∧ F.ar c = F.S + 2) := by
      unfold FP.ar; rw [if_pos hB]
      split <;> omega
    have hg : F.gt (F.row c) (F.col c) (F.ar c) := ⟨hd, by rw [c4]; exact hB, ha⟩
    have e : F.ex c = 1 := by unfold FP.ex; rw [if_pos hB]
    rw [e]
    refine ⟨Or.inr (Or.inr (Or.inl ⟨rfl, hg⟩)), Or.inr (Or.inr (Or.inr (Or.inl ⟨rfl, hg⟩))), ?_, ?_⟩ <;> (unfold dm nab; omega)
  · have ha : F.ar c = F.row c := by unfold FP.ar; rw [if_neg hB]
    have e : F.ex c = 0 := by unfold FP.ex; rw [if_neg hB]
    rw [e, ha]
    exact ⟨clr_refl hd, clr_refl hd, dm_self _ _, dm_self _ _⟩

theorem trn_spec (hp : Pln F) {a b : Nat} (ha : a < F.N) (hb : b < F.N) : F.chn (F.row a) (F.col a) (F.trn a b) ∧ plen (F.row a) (F.col a) (F.trn a b) = F.dst a b ∧ F.idp (lst (F.row a) (F.col a) (F.trn a b)) = b := by
  unfold FP.trn FP.dst
  by_cases h : a = b
  · subst h
    rw [if_pos rfl, if_pos rfl]
    exact ⟨trivial, rfl, (cell_on hp ha).2.2.1⟩
  · rw [if_neg h, if_neg h]
    obtain ⟨a1, -, a3, -⟩ := anchor_clr hp ha
    obtain ⟨-, b2, -, b4⟩ := anchor_clr hp hb
    obtain ⟨s1, s2⟩ := bnd_spec hp (anchor_on hp ha) (anchor_on hp hb) [(F.row b, F.col b)] ⟨b2, trivial⟩
    refine ⟨⟨a1, s1⟩, ?_, ?_⟩
    · show dm _ _ _ _ + _ = _
      rw [s2, a3]
      simp only [plen, b4]
      omega
    · have : ∀ (U : List (Nat × Nat)) (r q : Nat) (p : Nat × Nat), lst r q (U ++ [p]) = p := by
        intro U
        induction U with
        | nil => intro r q p; rfl
        | cons t ts ih => intro r q p; exact ih _ _ _
      rw [show (F.ar a, F.col a) :: (bnd F.A F.P F.S (F.ar a) (F.col a) (F.ar b) (F.col b) ++ [(F.ar b, F.col b), (F.row b, F.col b)]) = ((F.ar a, F.col a) :: (bnd F.A F.P F.S (F.ar a) (F.col a) (F.ar b) (F.col b) ++ [(F.ar b, F.col b)])) ++ [(F.row b, F.col b)] by simp, this]
      exact (cell_on hp hb).2.2.1

/-- The route. -/
def FP.rte (F : FP) (a b : Nat) : List Nat := a :: (legs (F.row a) (F.col a) (F.trn a b)).map F.idp
theorem rte_spec (hp : Pln F) {a b : Nat} (ha : a < F.N) (hb : b < F.N) : Trail F a b (F.rte a b) ∧ (F.rte a b).length = F.dst a b + 1 := by
  obtain ⟨t1, t2, t3⟩ := trn_spec hp ha hb
  have e : F.idp (F.row a, F.col a) = a := (cell_on hp ha).2.2.1
  have h0 : Trail F a (F.idp (F.row a, F.col a)) [a] := by rw [e]; exact Trail.one ha
  have := legs_trail hp a _ _ _ _ t1 (cell_drv hp ha) h0
  rw [t3] at this
  exact ⟨this, by simp [FP.rte, legs_len, t2]⟩
end
end Go.Proofs.Qxb6500715aDoor
