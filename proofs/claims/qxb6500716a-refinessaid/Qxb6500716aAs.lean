/-
  Plain: the search finds the earliest arrival.
-/
import Derived.Test.Qxb6500716aBs
import Derived.Test.Qxb6500716aEa
namespace Go.Proofs.Qxb6500716a
open Go.RowKit Go.Maps
set_option linter.unusedSimpArgs false
set_option linter.unusedVariables false
set_option maxRecDepth 20000
set_option maxHeartbeats 4000000
section
variable {F : FS} {T : TS} {q : Rq} {bay hz : Int}
/-- What a robot can reach, in so many steps. -/
def RchN (F : FS) (T : TS) (q : Rq) : Nat → Nat → Nat → Nat → Prop
  | 0, c, o, l => c = q.s.toNat ∧ o = 0 ∧ l = 0
  | n + 1, c, o, l => ∃ y : Nd, RchN F T q n y.c y.o y.l ∧ Nxt F T q y c o l
def Rch (F : FS) (T : TS) (q : Rq) (c o l : Nat) : Prop := ∃ n, RchN F T q n c o l
theorem RchN.bd (hF : FOk F) (hs : q.s.toNat < F.n) : ∀ (n c o l : Nat), RchN F T q n c o l → c < F.n ∧ l ≤ q.gl.length
  | 0, c, o, l, h => by
    obtain ⟨rfl, -, rfl⟩ := h
    exact ⟨hs, Nat.zero_le _⟩
  | n + 1, c, o, l, h => by
    obtain ⟨y, h1, h2⟩ := h
    obtain ⟨h3, h4⟩ := RchN.bd hF hs n _ _ _ h1
    exact h2.bd hF h3 h4
/-- The key does not fall along a step. -/
theorem key_step (hF : FOk F) {x : Nd} {c o l : Nat} (h : Nxt F T q x c o l) (hc : x.c < F.n) : x.o + F.est bay q.gl x.c x.l ≤ o + F.est bay q.gl c l := by
  rcases h with ⟨g, h1, h2, h3, rfl, rfl, rfl⟩ | ⟨⟨h1, h2⟩, rfl, rfl⟩
  · have := est_goal hF bay q.gl x.c x.l g h1 h2
    omega
  · rcases h1 with rfl | h1
    · omega
    · have hb := hF.near _ _ h1
      have := est_near hF bay q.gl x.c c x.l (by omega) h1
      omega
def stN2 (F : FS) (q : Rq) (hz : Int) : Nat := (hz.toNat + 1) * (q.gl.length + 1) * F.n
def idn (F : FS) (q : Rq) (c o l : Nat) : Nat := (o * (q.gl.length + 1) + l) * F.n + c
theorem idx_nat (c o l : Nat) : idx F q.gl c o l = (idn F q c o l : Int) := by
  unfold idx idn
  simp only [Int.natCast_add, Int.natCast_mul, Int.natCast_one]
theorem idn_lt {c o l : Nat} (hc : c < F.n) (hl : l ≤ q.gl.length) (ho : (o : Int) ≤ hz) : idn F q c o l < stN2 F q hz := by
  unfold idn stN2
  have h1 : o * (q.gl.length + 1) + l + 1 ≤ (hz.toNat + 1) * (q.gl.length + 1) := by
    have : o * (q.gl.length + 1) ≤ hz.toNat * (q.gl.length + 1) := Nat.mul_le_mul_right _ (by omega)
    rw [Nat.add_mul, Nat.one_mul]
    omega
  have h2 := Nat.mul_le_mul_right F.n h1
  rw [Nat.add_mul, Nat.one_mul] at h2
  omega
/-- What stands all through the search; X: the nodes that were popped, Y: those of them that are expanded. -/
structure Ast (F : FS) (T : TS) (q : Rq) (bay hz : Int) (X Y : List Nat) (S : PS) : Prop where
  n : NOk F T q bay hz S.nd
  cl : ∀ y, y ∈ S.nd → y.c < F.n ∧ y.l ≤ q.gl.length
  se : ∀ c o l : Nat, c < F.n → l ≤ q.gl.length → S.seen (idx F q.gl c o l) = true → ∃ (i : Nat) (y : Nd), S.nd[i]? = some y ∧ y.c = c ∧ y.o = o ∧ y.l = l
  hv : ∀ x, x ∈ S.hp → ∃ y, S.nd[x.v]? = some y ∧ x.k = y.o + F.est bay q.gl y.c y.l
  cnt : X.length + S.hp.length = S.nd.length
  ct : cntT (fun j => S.seen (j : Int)) (stN2 F q hz) = S.nd.length
  all : ∀ i, i < S.nd.length → i ∈ X ∨ ∃ x, x ∈ S.hp ∧ x.v = i
  xl : ∀ i, i ∈ X → i < S.nd.length
  sub : ∀ i, i ∈ Y → i ∈ X
  ex : ∀ (i : Nat) (y : Nd), i ∈ Y → S.nd[i]? = some y → T.arrd q bay y = false ∧ ∀ c o l : Nat, Nxt F T q y c o l → (o : Int) + (F.est bay q.gl c l : Int) ≤ hz → S.seen (idx F q.gl c o l) = true
  st : (F.est bay q.gl q.s.toNat 0 : Int) ≤ hz → S.seen (idx F q.gl q.s.toNat 0 0) = true
theorem cntT_le2 (p : Nat → Bool) : ∀ n, cntT p n ≤ n
  | 0 => Nat.le_refl _
  | n + 1 => by
    have := cntT_le2 p n
    rw [cntT]
    split <;> omega
theorem seen_reach {S : PS} (c o l : Nat) (p : Int) (i : Int) (h : S.seen i = true) : (S.reach F q.gl bay hz c o l p).seen i = true := by
  rw [reach_eq]
  split
  · exact h
  · split
    · exact h
    · simp [h]
theorem reach_seen {S : PS} (c o l : Nat) (p : Int) (hk : (o : Int) + (F.est bay q.gl c l : Int) ≤ hz) : (S.reach F q.gl bay hz c o l p).seen (idx F q.gl c o l) = true := by
  rw [reach_eq, if_neg (by omega)]
  split
  · assumption
  · simp
theorem nd_reach {S : PS} (c o l : Nat) (p : Int) (i : Nat) (y : Nd) (h : S.nd[i]? = some y) : (S.reach F q.gl bay hz c o l p).nd[i]? = some y := by
  rw [reach_eq]
  split
  · exact h
  · split
    · exact h
    · simp only
      rw [List.getElem?_append_left (List.getElem?_eq_some_iff.1 h).1]
      exact h
/-- 'reach' keeps all but what is said of the expanded nodes, which it keeps too. -/
theorem Ast.reach {X Y : List Nat} {S : PS} (h : Ast F T q bay hz X Y S) (c o l : Nat) (p : Int) (hc : c < F.n) (hl : l ≤ q.gl.length) (hn : NOk F T q bay hz (S.reach F q.gl bay hz c o l p).nd) : Ast F T q bay hz X Y (S.reach F q.gl bay hz c o l p) := by
  have hmono := fun i hi => seen_reach (F := F) (q := q) (bay := bay) (hz := hz) (S := S) c o l p i hi
  have hex : ∀ (i : Nat) (y : Nd), i ∈ Y → (S.reach F q.gl bay hz c o l p).nd[i]? = some y → T.arrd q bay y = false ∧ ∀ c2 o2 l2 : Nat, Nxt F T q y c2 o2 l2 → (o2 : Int) + (F.est bay q.gl c2 l2 : Int) ≤ hz → (S.reach F q.gl bay hz c o l p).seen (idx F q.gl c2 o2 l2) = true := fun i y hi hy => by
    have hlt := h.xl i (h.sub i hi)
    have h1 : S.nd[i]? = some S.nd[i] := List.getElem?_eq_getElem hlt
    have h2 := nd_reach (F := F) (q := q) (bay := bay) (hz := hz) c o l p i _ h1
    rw [h2] at hy
    obtain rfl := Option.some.inj hy
    obtain ⟨h3, h4⟩ := h.ex i _ hi h1
    exact ⟨h3, fun c2 o2 l2 a b => hmono _ (h4 c2 o2 l2 a b)⟩
  have hst := fun a => hmono _ (h.st a)
  rw [reach_eq] at hn hex hst ⊢
  by_cases h1 : hz < (o : Int) + (F.est bay q.gl c l : Int)
  · rw [if_pos h1]; exact h
  rw [if_neg h1] at hn hex hst ⊢
  by_cases h2 : S.seen (idx F q.gl c o l) = true
  · rw [if_pos h2]; exact h
  rw [if_neg h2] at hn hex hst ⊢
  refine ⟨hn, fun y hy => ?_, fun c2 o2 l2 hc2 hl2 hs => ?_, fun x hx => ?_, ?_, ?_, fun i hi => ?_, fun i hi => ?_, h.sub, hex, hst⟩
  · rcases List.mem_append.1 hy with hy | hy
    · exact h.cl y hy
    · simp at hy; subst hy; exact ⟨hc, hl⟩
  · simp only [Bool.or_eq_true, decide_eq_true_eq] at hs
    rcases hs with hs | hs
    · obtain ⟨rfl, rfl, rfl⟩ := idx_inj hc2 hc hl2 hl hs
      exact ⟨S.nd.length, ⟨c2, o2, l2, p⟩, by simp, rfl, rfl, rfl⟩
    · obtain ⟨i, y, e1, e2⟩ := h.se c2 o2 l2 hc2 hl2 hs
      refine ⟨i, y, ?_, e2⟩
      simp only
      rw [List.getElem?_append_left (List.getElem?_eq_some_iff.1 e1).1]
      exact e1
  · simp only at hx ⊢
    rcases List.mem_append.1 hx with hx | hx
    · obtain ⟨y, e1, e2⟩ := h.hv x hx
      refine ⟨y, ?_, e2⟩
      rw [List.getElem?_append_left (List.getElem?_eq_some_iff.1 e1).1]
      exact e1
    · simp at hx
      subst hx
      exact ⟨⟨c, o, l, p⟩, by simp, rfl⟩
  · have := h.cnt
    simp
    omega
  · simp only [List.length_append, List.length_singleton]
    rw [← h.ct]
    have ho : (o : Int) ≤ hz := by omega
    have hid := idx_nat (F := F) (q := q) c o l
    have hlt := idn_lt (F := F) (q := q) (hz := hz) hc hl ho
    refine cntT_set (s := idn F q c o l) ?_ ?_ (fun i hi => ?_) _ hlt
    · rw [← hid]
      simpa using h2
    · rw [← hid]
      simp
    · rw [hid]
      rw [show decide ((i : Int) = (idn F q c o l : Int)) = false by simp; omega]
      simp
  · simp only [List.length_append, List.length_singleton] at hi
    by_cases e : i < S.nd.length
    · rcases h.all i e with h3 | ⟨x, h3, h4⟩
      · exact Or.inl h3
      · exact Or.inr ⟨x, by simp [h3], h4⟩
    · exact Or.inr ⟨⟨o + F.est bay q.gl c l, F.est bay q.gl c l, S.nd.length⟩, by simp, by simp only; omega⟩
  · have := h.xl i hi
    simp
    omega
/-- All that follows a node is seen behind its expansion. -/
theorem near_mono {c o l : Nat} {id : Int} (i : Int) : ∀ (r : List Int) (S : PS), S.seen i = true → (nearGo F T q bay hz c o l id r S).seen i = true
  | [], S, h => h
  | to :: r, S, h => by
    rw [nearGo]
    refine near_mono i r _ ?_
    split
    · exact seen_reach _ _ _ _ _ h
    · exact h
theorem near_seen {c o l : Nat} {id : Int} (to : Nat) (hf : T.freeM q.r c to (q.t + o) = true) (hk : ((o + 1 : Nat) : Int) + (F.est bay q.gl to l : Int) ≤ hz) : ∀ (r : List Int) (S : PS), (to : Int) ∈ r → (nearGo F T q bay hz c o l id r S).seen (idx F q.gl to (o + 1) l) = true
  | [], S, h => by cases h
  | z :: r, S, h => by
    rw [nearGo]
    rcases List.mem_cons.1 h with h | h
    · refine near_mono _ r _ ?_
      rw [← h, if_pos hf, Int.toNat_natCast]
      exact reach_seen _ _ _ _ hk
    · exact near_seen to hf hk r _ h
theorem expand_mono {x : Nd} {id : Int} (i : Int) (S : PS) (h : S.seen i = true) : (S.expand F T q bay hz x id).seen i = true := by
  unfold PS.expand
  refine near_mono i _ _ ?_
  unfold PS.exp2
  have h1 : (S.exp1 F T q bay hz x.c x.o x.l id).seen i = true := by
    unfold PS.exp1
    split
    · split
      · exact seen_reach _ _ _ _ _ h
      · exact h
    · exact h
  split
  · exact seen_reach _ _ _ _ _ h1
  · exact h1
theorem expand_seen {x : Nd} {id : Int} (S : PS) {c o l : Nat} (hn : Nxt F T q x c o l) (hk : (o : Int) + (F.est bay q.gl c l : Int) ≤ hz) : (S.expand F T q bay hz x id).seen (idx F q.gl c o l) = true := by
  unfold PS.expand
  rcases hn with ⟨g, h1, h2, h3, rfl, rfl, rfl⟩ | ⟨⟨h1, h2⟩, rfl, rfl⟩
  · refine near_mono _ _ _ ?_
    have h4 : (S.exp1 F T q bay hz x.c x.o x.l id).seen (idx F q.gl x.c (x.o + g.2.toNat) (x.l + 1)) = true := by
      unfold PS.exp1
      rw [h1]
      simp only
      rw [if_pos ⟨h2, h3⟩]
      exact reach_seen _ _ _ _ hk
    unfold PS.exp2
    split
    · exact seen_reach _ _ _ _ _ h4
    · exact h4
  · rcases h1 with rfl | h1
    · refine near_mono _ _ _ ?_
      unfold PS.exp2
      rw [if_pos h2]
      exact reach_seen _ _ _ _ hk
    · exact near_seen c h2 hk _ _ h1
theorem Ast.expand {X Y : List Nat} {S : PS} (hF : FOk F) (h : Ast F T q bay hz X Y S) (id : Nat) (x : Nd) (hx : S.nd[id]? = some x) : Ast F T q bay hz X Y (S.expand F T q bay hz x id) ∧ (S.expand F T q bay hz x id).nd[id]? = some x := by
  have hxo := h.cl x (List.mem_of_getElem? hx)
  have := expand_ind (T := T) (q := q) (bay := bay) (hz := hz) (x := x) (id := (id : Int)) hF (fun d S => Ast F T q bay hz X Y S ∧ S.nd[id]? = some x) (fun d S h => h)
    (fun d S c o l h hn => by
      have hb := hn.bd hF hxo.1 hxo.2
      have hil := (List.getElem?_eq_some_iff.1 h.2).1
      exact ⟨h.1.reach c o l id hb.1 hb.2 (h.1.n.reach c o l id (Or.inr ⟨id, x, rfl, hil, h.2, hn⟩)), reach_old c o l _ id x h.2⟩) S 0 ⟨h, hx⟩
  exact this
/-- Pop and expand a node that has not arrived. -/
theorem Ast.next {X : List Nat} {S : PS} (hF : FOk F) (h : Ast F T q bay hz X X S) {a b : List It} {x : It} (hp : S.hp = a ++ x :: b) {y : Nd} (hy : S.nd[x.v]? = some y) (hna : T.arrd q bay y = false) :
    Ast F T q bay hz (x.v :: X) (x.v :: X) (({ S with hp := a ++ b } : PS).expand F T q bay hz y x.v) := by
  have hsub : ∀ z, z ∈ a ++ b → z ∈ S.hp := fun z hz => by
    rw [hp]
    rcases List.mem_append.1 hz with hz | hz
    · simp [hz]
    · simp [hz]
  have h0 : Ast F T q bay hz (x.v :: X) X ({ S with hp := a ++ b } : PS) := by
    refine ⟨h.n, h.cl, h.se, fun z hz => h.hv z (hsub z hz), ?_, h.ct, fun i hi => ?_, fun i hi => ?_, fun i hi => by simp [hi], h.ex, h.st⟩
    · have := h.cnt
      rw [hp] at this
      simp at this ⊢
      omega
    · rcases h.all i hi with h1 | ⟨z, h1, h2⟩
      · exact Or.inl (by simp [h1])
      · rw [hp] at h1
        rcases List.mem_append.1 h1 with h1 | h1
        · exact Or.inr ⟨z, by simp [h1], h2⟩
        · rcases List.mem_cons.1 h1 with h1 | h1
          · subst h1
            exact Or.inl (by simp [h2])
          · exact Or.inr ⟨z, by simp [h1], h2⟩
    · rcases List.mem_cons.1 hi with h1 | h1
      · rw [h1]; exact (List.getElem?_eq_some_iff.1 hy).1
      · exact h.xl i h1
  obtain ⟨k, hk⟩ := h0.expand hF x.v y hy
  refine ⟨k.n, k.cl, k.se, k.hv, k.cnt, k.ct, k.all, k.xl, fun i hi => hi, fun i z hi hz => ?_, k.st⟩
  rcases List.mem_cons.1 hi with h1 | h1
  · subst h1
    rw [hk] at hz
    obtain rfl := Option.some.inj hz
    exact ⟨hna, fun c o l a b => expand_seen _ a b⟩
  · exact k.ex i z h1 hz
theorem arrd_of {x y : Nd} (h1 : x.c = y.c) (h2 : x.o = y.o) (h3 : x.l = y.l) : T.arrd q bay x = T.arrd q bay y := by
  unfold TS.arrd
  rw [h1, h2, h3]
/-- Below the least key of the heap all that can be reached is expanded. -/
theorem Ast.done {X : List Nat} {S : PS} (hF : FOk F) (hs : q.s.toNat < F.n) (h : Ast F T q bay hz X X S) (B : Nat) (hB : (B : Int) ≤ hz) (hh : ∀ x, x ∈ S.hp → B < x.k) : ∀ (n c o l : Nat), RchN F T q n c o l → o + F.est bay q.gl c l ≤ B → ∃ (i : Nat) (y : Nd), i ∈ X ∧ S.nd[i]? = some y ∧ y.c = c ∧ y.o = o ∧ y.l = l := by
  have key : ∀ c o l : Nat, c < F.n → l ≤ q.gl.length → S.seen (idx F q.gl c o l) = true → o + F.est bay q.gl c l ≤ B → ∃ (i : Nat) (y : Nd), i ∈ X ∧ S.nd[i]? = some y ∧ y.c = c ∧ y.o = o ∧ y.l = l := fun c o l hc hl h1 h2 => by
    obtain ⟨i, y, e1, e2, e3, e4⟩ := h.se c o l hc hl h1
    rcases h.all i (List.getElem?_eq_some_iff.1 e1).1 with h3 | ⟨x, h3, h4⟩
    · exact ⟨i, y, h3, e1, e2, e3, e4⟩
    · exfalso
      obtain ⟨z, f1, f2⟩ := h.hv x h3
      rw [h4, e1] at f1
      obtain rfl := Option.some.inj f1
      have := hh x h3
      rw [f2, e2, e3, e4] at this
      omega
  intro n
  induction n with
  | zero =>
    intro c o l hr hk
    obtain ⟨rfl, rfl, rfl⟩ := hr
    exact key _ _ _ hs (Nat.zero_le _) (h.st (by omega)) hk
  | succ n ih =>
    intro c o l hr hk
    obtain ⟨y, h1, h2⟩ := hr
    obtain ⟨h3, h4⟩ := RchN.bd hF hs n _ _ _ h1
    have h5 := key_step (bay := bay) hF h2 h3
    obtain ⟨i, z, e1, e2, e3, e4, e5⟩ := ih y.c y.o y.l h1 (by omega)
    have h6 : Nxt F T q z c o l := by
      unfold Nxt at h2 ⊢
      rw [e3, e4, e5]
      exact h2
    obtain ⟨h7, h8⟩ := h2.bd hF h3 h4
    exact key c o l h7 h8 ((h.ex i z e1 e2).2 c o l h6 (by omega)) hk
theorem Ast.none {X : List Nat} {S : PS} (hF : FOk F) (hs : q.s.toNat < F.n) (h : Ast F T q bay hz X X S) (B : Nat) (hB : (B : Int) ≤ hz) (hh : ∀ x, x ∈ S.hp → B < x.k) {c o l : Nat} {p : Int} (hr : Rch F T q c o l) (hk : o + F.est bay q.gl c l ≤ B) : T.arrd q bay ⟨c, o, l, p⟩ = false := by
  obtain ⟨n, hr⟩ := hr
  obtain ⟨i, y, e1, e2, e3, e4, e5⟩ := h.done hF hs B hB hh n c o l hr hk
  rw [← (h.ex i y e1 e2).1]
  exact arrd_of e3.symm e4.symm e5.symm
theorem arrd_key (hF : FOk F) (hb : 0 ≤ bay) {y : Nd} (h : T.arrd q bay y = true) : F.est bay q.gl y.c y.l = 0 := by
  unfold TS.arrd at h
  simp at h
  have := est_home hF bay q.gl
  rw [h.1, show y.c = bay.toNat by omega]
  exact this
/-- Nodes can be reached. -/
theorem NOk.rch {nd : List Nd} (h : NOk F T q bay hz nd) : ∀ (k i : Nat) (y : Nd), i < k → nd[i]? = some y → Rch F T q y.c y.o y.l
  | 0, i, y, hk, _ => by omega
  | k + 1, i, y, hk, hy => by
    rcases (h i y hy).1 with e | ⟨j, x, e1, e2, e3, e4⟩
    · subst e
      exact ⟨0, rfl, rfl, rfl⟩
    · obtain ⟨n, hn⟩ := NOk.rch h k j x (by omega) e3
      exact ⟨n + 1, x, hn, e4⟩
/-- What the search answers, given that the limit cannot be hit. -/
theorem srch_best (hF : FOk F) (hb : 0 ≤ bay) (hs : q.s.toNat < F.n) : ∀ (k e : Nat) (X : List Nat) (S : PS), Ast F T q bay hz X X S → X.length = e → stN2 F q hz ≤ e + k →
    ((PS.srch F T q bay hz k e S).2.c = 0 ∧ ∃ y : Nd, Rch F T q y.c y.o y.l ∧ T.arrd q bay y = true ∧ (PS.srch F T q bay hz k e S).2.path.length = y.o + 1 ∧ (y.o : Int) ≤ hz ∧ ∀ z : Nd, Rch F T q z.c z.o z.l → T.arrd q bay z = true → y.o ≤ z.o) ∨
    ((PS.srch F T q bay hz k e S).2.c = 4 ∧ ∀ z : Nd, Rch F T q z.c z.o z.l → T.arrd q bay z = true → hz < (z.o : Int)) := by
  have hnil : ∀ (k e : Nat) (X : List Nat) (S : PS), Ast F T q bay hz X X S → S.hp = [] → (PS.srch F T q bay hz k e S).2.c = 4 ∧ ∀ z : Nd, Rch F T q z.c z.o z.l → T.arrd q bay z = true → hz < (z.o : Int) := fun k e X S h h1 => by
    refine ⟨srch_nil h1 k e, fun z hr ha => ?_⟩
    have hk := arrd_key hF hb ha
    rcases Int.lt_or_le hz (z.o : Int) with h2 | h2
    · exact h2
    · exfalso
      have := h.none hF hs z.o h2 (fun x hx => by rw [h1] at hx; cases hx) (p := z.p) hr (by omega)
      rw [ha] at this
      cases this
  intro k
  induction k with
  | zero =>
    intro e X S h he hst
    right
    have h1 : S.hp = [] := by
      have h2 := h.cnt
      have h3 := cntT_le2 (fun j => S.seen (j : Int)) (stN2 F q hz)
      rw [h.ct] at h3
      exact List.length_eq_zero_iff.1 (by omega)
    exact hnil 0 e X S h h1
  | succ k ih =>
    intro e X S h he hst
    by_cases h1 : S.hp = []
    · exact Or.inr (hnil (k + 1) e X S h h1)
    obtain ⟨a, x, b, g1, g2, g3, g4⟩ := best_split h1
    have hx : S.hp.getD (best S.hp) It.nil = x := by rw [g2, g1]; exact getD_mid a b x
    have hmem : x ∈ S.hp := by rw [g1]; simp
    obtain ⟨y, hy, hk⟩ := h.hv x hmem
    have hyd : S.nd.getD x.v Nd.nil = y := by rw [List.getD_eq_getElem?_getD, hy]; rfl
    have her : S.hp.eraseIdx (best S.hp) = a ++ b := by rw [g2, g1]; exact erase_mid a b x
    rw [PS.srch, if_neg h1, hx, hyd, her]
    by_cases h2 : T.arrd q bay y = true
    · rw [if_pos h2]
      left
      have hyk := arrd_key hF hb h2
      have hyz := (h.n x.v y hy).2
      refine ⟨rfl, y, h.n.rch (x.v + 1) x.v y (by omega) hy, h2, ?_, by omega, fun z hr ha => ?_⟩
      · unfold Pl.trace
        simp only
        rw [lst_len, hyd]
      · have hzk := arrd_key hF hb ha
        rcases Nat.lt_or_ge z.o y.o with h3 | h3
        · exfalso
          have := h.none hF hs z.o (by omega) (fun w hw => by
            have hwk : x.k ≤ w.k := by
              rw [g1] at hw
              rcases List.mem_append.1 hw with hw | hw
              · have := g3 w hw
                unfold It.lt at this
                simp at this
                omega
              · rcases List.mem_cons.1 hw with rfl | hw
                · exact Nat.le_refl _
                · have := g4 w hw
                  unfold It.lt at this
                  simp at this
                  omega
            omega) (p := z.p) hr (by omega)
          rw [ha] at this
          cases this
        · exact h3
    · rw [if_neg h2]
      exact ih (e + 1) (x.v :: X) _ (h.next hF g1 hy (by simpa using h2)) (by simp; omega) (by omega)
end
end Go.Proofs.Qxb6500716a
