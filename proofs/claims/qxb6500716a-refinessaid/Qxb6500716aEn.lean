/-
  Plain: a plan that was found can be entered, if there is room.
-/
import Derived.Test.Qxb6500716aVa
namespace Go.Proofs.Qxb6500716a
open Go.RowKit Go.Maps
set_option linter.unusedSimpArgs false
set_option linter.unusedVariables false
set_option maxRecDepth 20000
set_option maxHeartbeats 4000000
theorem crossF_no {T : TS} {r a b t : Int} : ∀ (n k : Nat), (∀ j : Nat, k ≤ j → j < k + n → (j : Int) ≠ r → ¬ (T.at j t = b ∧ T.at j (t + 1) = a)) → T.crossF r a b t k n = false
  | 0, k, _ => rfl
  | n + 1, k, h => by
    rw [TS.crossF, if_neg (fun e => h k (by omega) (by omega) e.1 e.2)]
    exact crossF_no n (k + 1) (fun j h1 h2 => h j (by omega) (by omega))
theorem crossed_no {T : TS} {r t : Int} (h : T.at r t ≠ -1 → T.at r (t + 1) ≠ -1 → T.at r t ≠ T.at r (t + 1) → ∀ j : Nat, j < T.nr → (j : Int) ≠ r → ¬ (T.at j t = T.at r (t + 1) ∧ T.at j (t + 1) = T.at r t)) : T.crossed r t = false := by
  unfold TS.crossed
  split
  · rfl
  · rename_i e
    exact crossF_no T.nr 0 (fun j _ h2 hr => h (fun x => e (Or.inl x)) (fun x => e (Or.inr (Or.inl x))) (fun x => e (Or.inr (Or.inr x))) j (by omega) hr)
theorem holdF_all {T : TS} {c t : Int} : ∀ (n k : Nat), (∀ j : Nat, k ≤ j → j < k + n → T.at j t ≠ c) → T.holdF c t k n = -1
  | 0, k, _ => rfl
  | n + 1, k, h => by
    rw [TS.holdF, if_neg (h k (by omega) (by omega))]
    exact holdF_all n (k + 1) (fun j h1 h2 => h j (by omega) (by omega))
theorem hold_all {T : TS} {c t : Int} (h : ∀ j : Nat, j < T.nr → T.at j t ≠ c) : T.hold c t = -1 := holdF_all T.nr 0 (fun j _ h2 => h j (by omega))
theorem tm_none {T : TS} {r t : Int} (hm : MBd T.tm) (h : T.at r t = -1) : T.tm r t = none := by
  cases e : T.tm r t with
  | none => rfl
  | some x =>
    unfold TS.at at h
    rw [e] at h
    simp only at h
    have := hm.x r t x e
    omega
/-- A table on which a beginning of the path lies. -/
structure Lay (T Tk : TS) (r t : Int) (path : List Int) (k : Nat) : Prop where
  inv : TInv Tk
  nr : Tk.nr = T.nr
  nc : Tk.nc = T.nc
  cap : Tk.cap = T.cap
  base : Tk.base = T.base
  sp : Tk.sp = (T.trunc r t).sp
  own : ∀ b, t ≤ b → Tk.at r b = if b < t + k then path.getD (b - t).toNat 0 else -1
  old : ∀ b, b < t → Tk.at r b = T.at r b
  oth : ∀ a b, a ≠ r → Tk.at a b = T.at a b
  tmo : ∀ a b, a ≠ r → Tk.tm a b = T.tm a b
  tmr : ∀ b, t + k ≤ b → Tk.tm r b = none
  held : Tk.held = (T.trunc r t).held + k
theorem crossed_off {T : TS} {r t : Int} (h : T.at r (t + 1) = -1) : T.crossed r t = false := by
  unfold TS.crossed
  rw [if_pos (Or.inr (Or.inl h))]
section
variable {F : FS} {T : TS} {q : Rq} {p : Pl}
theorem lay_zero (hT : TInv T) (hr : 0 ≤ q.r) (ht : (T.base : Int) ≤ q.t) : Lay T (T.trunc q.r q.t) q.r q.t p.path 0 := by
  have hmax : max q.t (T.base : Int) = q.t := by omega
  refine ⟨hT.trunc hr, rfl, rfl, rfl, rfl, rfl, fun b hb => ?_, fun b hb => ?_, fun a b hab => ?_, fun a b hab => ?_, fun b hb => ?_, rfl⟩
  · rw [trunc_at hr, hmax, if_pos ⟨rfl, hb⟩, if_neg (by omega)]
  · rw [trunc_at hr, hmax, if_neg (fun e => by omega)]
  · rw [trunc_at hr, if_neg (fun e => hab e.1)]
  · show cutM T.tm q.r (max q.t T.base) a b = T.tm a b
    unfold cutM
    rw [if_neg (fun e => hab e.1)]
  · show cutM T.tm q.r (max q.t T.base) q.r b = none
    unfold cutM
    rw [if_pos ⟨rfl, by omega⟩]
/-- No swap where the path's k-th cell is taken. -/
theorem no_cross (hF : FOk F) (hT : TInv T) (hnr : T.nr = F.bays.length) (h : Found F T q p) {k : Nat} {c : Int} (hc : p.path[k]? = some c) {U : TS} (hun : U.nr = T.nr) (hown : U.at q.r (q.t + k) = c) (hprev : U.at q.r (q.t + k - 1) = if k = 0 then T.at q.r (q.t - 1) else p.path.getD (k - 1) 0) (hoth : ∀ a b, a ≠ q.r → U.at a b = T.at a b) : U.crossed q.r (q.t + k - 1) = false := by
  obtain ⟨-, -, -, -, -, hsw, -⟩ := h.valid hF hT hnr
  have hcell := h.cell hF c (List.mem_iff_getElem?.2 ⟨k, hc⟩)
  have hs0 := (h.valid hF hT hnr).1
  refine crossed_no ?_
  rw [show q.t + (k : Int) - 1 + 1 = q.t + k by omega, hown, hprev]
  intro h1 h2 h3 j hj hr
  rw [hoth j _ hr, hoth j _ hr]
  rintro ⟨e1, e2⟩
  cases k with
  | zero =>
    rw [if_pos rfl] at h1 h3 e2
    have hsf := h.sf
    unfold TS.sfree at hsf
    rw [if_pos h1] at hsf
    rw [hs0] at hc
    obtain rfl := Option.some.inj hc
    have := (freeM_at hT hsf j (by omega) hr).2
    rw [show q.t - 1 + 1 = q.t + ((0 : Nat) : Int) by omega] at this
    rw [show q.t + ((0 : Nat) : Int) - 1 = q.t - 1 by omega] at e1
    exact this ⟨h3, e1, e2⟩
  | succ k =>
    rw [if_neg (by omega), Nat.add_sub_cancel] at h3 e2
    have hkl : k < p.path.length := by have := (List.getElem?_eq_some_iff.1 hc).1; omega
    have hp : p.path[k]? = some (p.path.getD k 0) := by rw [List.getD_eq_getElem?_getD, List.getElem?_eq_getElem hkl]; rfl
    rw [show q.t + ((k + 1 : Nat) : Int) - 1 = q.t + (k : Int) by omega] at e1
    exact hsw j k _ c (by omega) hr hp hc h3 e1 e2
theorem lay_prev {Tk : TS} {k : Nat} (hL : Lay T Tk q.r q.t p.path k) : Tk.at q.r (q.t + k - 1) = if k = 0 then T.at q.r (q.t - 1) else p.path.getD (k - 1) 0 := by
  cases k with
  | zero => rw [if_pos rfl, hL.old _ (by omega)]; congr 1; omega
  | succ k =>
    rw [if_neg (by omega), hL.own _ (by omega), if_pos (by omega), Nat.add_sub_cancel]
    congr 1
    omega
theorem lay_step (hF : FOk F) (hT : TInv T) (hnr : T.nr = F.bays.length) (hnc : T.nc = F.n) (h : Found F T q p) {Tk : TS} {k : Nat} (hL : Lay T Tk q.r q.t p.path k) (hk : k < p.path.length) (hcap : (T.trunc q.r q.t).held + p.path.length ≤ T.cap) :
    (Tk.reserve q.r (p.path.getD k 0) (q.t + k)).1 = 0 ∧ Lay T (Tk.reserve q.r (p.path.getD k 0) (q.t + k)).2 q.r q.t p.path (k + 1) := by
  have hp : p.path[k]? = some (p.path.getD k 0) := by rw [List.getD_eq_getElem?_getD, List.getElem?_eq_getElem hk]; rfl
  obtain ⟨-, -, -, -, hno, -, -⟩ := h.valid hF hT hnr
  have hcell := h.cell hF _ (List.mem_iff_getElem?.2 ⟨k, hp⟩)
  have hl2 := h.len2 hF
  have hrk := rok_of hF h.rc
  have hr := hrk.r
  have ht := hrk.t
  have hnr6 := hT.nr
  have hbase := hT.base
  have hwin : q.t + (p.path.length : Int) - 1 < (T.base : Int) + 256 := by
    obtain ⟨y, P, D, h1, -, -, -, -, -, h7⟩ := h.ex
    rw [h1, lst_len]
    unfold Rq.hz at h7
    omega
  generalize p.path.getD k 0 = c at *
  have h1 : Tk.place q.r c (q.t + k) = 0 := by
    unfold TS.place
    rw [if_neg (by simp; rw [hL.nr, hL.nc]; omega), hL.base, if_neg (by omega), if_neg (by omega)]
  have hfree : Tk.at q.r (q.t + k) = -1 := by rw [hL.own _ (by omega), if_neg (by omega)]
  have h3 : Tk.hold c (q.t + k) = -1 := hold_all (fun j hj => by
    by_cases e : (j : Int) = q.r
    · rw [e, hfree]; omega
    · rw [hL.oth _ _ e]
      exact hno j k c (by rw [← hnr, ← hL.nr]; exact hj) e hp)
  have hput : ∀ a b, (Tk.put q.r c (q.t + k)).at a b = if a = q.r ∧ b = q.t + k then c else Tk.at a b := fun a b => put_at Tk q.r c (q.t + k) a b
  have h4 : (Tk.put q.r c (q.t + k)).crossed q.r (q.t + k - 1) = false := no_cross hF hT hnr h hp (U := Tk.put q.r c (q.t + k)) hL.nr (by rw [hput, if_pos ⟨rfl, rfl⟩]) (by rw [hput, if_neg (fun e => by omega)]; exact lay_prev hL) (fun a b hab => by rw [hput, if_neg (fun e => hab e.1)]; exact hL.oth a b hab)
  have h5 : (Tk.put q.r c (q.t + k)).crossed q.r (q.t + k) = false := crossed_off (by rw [hput, if_neg (fun e => by omega), hL.own _ (by omega), if_neg (by omega)])
  have h6 : (Tk.put q.r c (q.t + k)).held = Tk.held + 1 := by
    have := cntM_put (f := Tk.tm) (a := q.r) (b := q.t + k) c (by omega) (by omega) (hL.tmr _ (by omega))
    unfold TS.held TS.put
    simp only
    omega
  have h7 : ¬ Tk.cap < (Tk.put q.r c (q.t + k)).held := by rw [h6, hL.held, hL.cap]; omega
  have hres : Tk.reserve q.r c (q.t + k) = (0, Tk.put q.r c (q.t + k)) := by
    unfold TS.reserve
    rw [if_neg (by omega), if_neg (by omega), if_neg (by omega), if_neg (by rw [h4, h5]; simp), if_neg h7]
  rw [hres]
  refine ⟨rfl, hL.inv.put h1 h3, hL.nr, hL.nc, hL.cap, hL.base, hL.sp, fun b hb => ?_, fun b hb => ?_, fun a b hab => ?_, fun a b hab => ?_, fun b hb => ?_, by rw [h6, hL.held]; omega⟩
  · rw [hput]
    by_cases e : b = q.t + k
    · rw [if_pos ⟨rfl, e⟩, if_pos (by omega), e, show (q.t + (k : Int) - q.t).toNat = k by omega, List.getD_eq_getElem?_getD, hp]
      rfl
    · rw [if_neg (fun x => e x.2), hL.own b hb]
      by_cases e2 : b < q.t + k
      · rw [if_pos e2, if_pos (by omega)]
      · rw [if_neg e2, if_neg (by omega)]
  · rw [hput, if_neg (fun x => by omega)]; exact hL.old b hb
  · rw [hput, if_neg (fun x => hab x.1)]; exact hL.oth a b hab
  · show putM Tk.tm q.r (q.t + k) c a b = T.tm a b
    unfold putM
    rw [if_neg (fun x => hab x.1)]
    exact hL.tmo a b hab
  · show putM Tk.tm q.r (q.t + k) c q.r b = none
    unfold putM
    rw [if_neg (fun x => by omega)]
    exact hL.tmr b (by omega)
theorem lay_go (hF : FOk F) (hT : TInv T) (hnr : T.nr = F.bays.length) (hnc : T.nc = F.n) (h : Found F T q p) (hcap : (T.trunc q.r q.t).held + p.path.length ≤ T.cap) (T0 : TS) : ∀ (l : List Int) (k : Nat) (Tk : TS), Lay T Tk q.r q.t p.path k → k + l.length < p.path.length → (∀ j, j < l.length → l.getD j 0 = p.path.getD (k + j) 0) → (T0.pathGo q.r q.t k l Tk).1 = 0 ∧ Lay T (T0.pathGo q.r q.t k l Tk).2.2 q.r q.t p.path (k + l.length)
  | [], k, Tk, hL, _, _ => ⟨rfl, hL⟩
  | c :: l, k, Tk, hL, hk, hg => by
    have hc : c = p.path.getD k 0 := hg 0 (by simp)
    rw [TS.pathGo, hc]
    simp only [List.length_cons] at hk
    obtain ⟨h1, h2⟩ := lay_step hF hT hnr hnc h hL (by omega) hcap
    rw [if_neg (by rw [h1]; simp)]
    have := lay_go hF hT hnr hnc h hcap T0 l (k + 1) _ h2 (by omega) (fun j hj => by
      have := hg (j + 1) (by simp; omega)
      rw [show k + 1 + j = k + (j + 1) by omega]
      exact this)
    rw [show k + (p.path.getD k 0 :: l).length = k + 1 + l.length by simp; omega]
    exact this
theorem spLater_cut (r u : Nat) (a c t : Int) : ∀ l : List Sg, a ≠ (r : Int) → spLater l a c t = false → spLater (cutS r u l) a c t = false := by
  intro l ha
  induction l with
  | nil => intro _; rfl
  | cons x l ih =>
    intro h
    rw [spLater] at h
    split at h
    · cases h
    · rename_i e
      unfold cutS
      have hcc : (x.cut r u).r = x.r ∧ (x.cut r u).c = x.c ∧ (x.cut r u).u ≤ x.u := by unfold Sg.cut; split <;> simp <;> omega
      split
      · rw [spLater, if_neg (fun y => e (by rw [hcc.1, hcc.2.1] at y; exact ⟨y.1, by omega, y.2.2⟩))]
        exact ih h
      · exact ih h
theorem spLater_own (r u : Nat) (c t : Int) (ht : (u : Int) ≤ t) : ∀ l : List Sg, spLater (cutS r u l) r c t = false := by
  intro l
  induction l with
  | nil => rfl
  | cons x l ih =>
    unfold cutS
    split
    · rw [spLater, if_neg (fun y => ?_)]
      · exact ih
      · obtain ⟨y1, y2, -⟩ := y
        have hxr : x.r = r := by
          have : (x.cut r u).r = x.r := by unfold Sg.cut; split <;> rfl
          omega
        have : (x.cut r u).u ≤ u := by unfold Sg.cut; rw [if_pos hxr]; simp only; omega
        omega
    · exact ih
theorem freeFF_of {T : TS} {r c t : Int} : ∀ (n k : Nat), (∀ j : Nat, k ≤ j → j < k + n → (j : Int) ≠ r → T.later j c t = false) → T.freeFF r c t k n = true
  | 0, k, _ => rfl
  | n + 1, k, h => by
    rw [TS.freeFF, if_neg (fun e => by rw [h k (by omega) (by omega) e.1] at e; cases e.2)]
    exact freeFF_of n (k + 1) (fun j h1 h2 => h j (by omega) (by omega))
theorem later_off {T : TS} {a c t : Int} (hm : MBd T.tm) (h : T.later a c t = false) : ¬ T.laterT a c t ∧ spLater T.sp a c t = false := by
  refine ⟨fun e => (by rw [later_yes hm e] at h; cases h), ?_⟩
  unfold TS.later at h
  simp at h
  exact h.2
theorem enter_ok (hF : FOk F) (hT : TInv T) (hnr : T.nr = F.bays.length) (hnc : T.nc = F.n) (h : Found F T q p) (hroom : ¬ ((T.cap : Int) - (T.held : Int) + T.remov q.r q.t < (p.path.length : Int))) : (T.enter q.r q.t p.path).1 = 0 := by
  have hrk := rok_of hF h.rc
  have hr := hrk.r
  have ht := hrk.t
  have hlen := h.len
  have hcap : (T.trunc q.r q.t).held + p.path.length ≤ T.cap := by
    unfold TS.remov TS.rOk at hroom
    rw [if_pos (by simp; omega)] at hroom
    omega
  have hlt : (p.path.take (p.path.length - 1)).length = p.path.length - 1 := by simp
  obtain ⟨g1, hL⟩ := lay_go hF hT hnr hnc h hcap (T.trunc q.r q.t) (p.path.take (p.path.length - 1)) 0 _ (lay_zero (p := p) hT hr.1 ht.1) (by omega) (fun j hj => by
    rw [List.getD_eq_getElem?_getD, List.getD_eq_getElem?_getD, List.getElem?_take, if_pos (by omega), Nat.zero_add])
  rw [hlt, Nat.zero_add] at hL
  unfold TS.enter
  rw [if_neg hroom]
  unfold TS.path
  rw [if_neg (by rw [g1]; simp)]
  generalize ((T.trunc q.r q.t).pathGo q.r q.t 0 (p.path.take (p.path.length - 1)) (T.trunc q.r q.t)).2.2 = U at *
  have hk : p.path.length - 1 < p.path.length := by omega
  have hp : p.path[p.path.length - 1]? = some (p.path.getD (p.path.length - 1) 0) := by rw [List.getD_eq_getElem?_getD, List.getElem?_eq_getElem hk]; rfl
  have hval := h.valid hF hT hnr
  have hbay : p.path.getD (p.path.length - 1) 0 = (F.park q.r).1 := by
    have := hval.2.1
    rw [hp] at this
    exact Option.some.inj this
  have hcell := h.cell hF _ (List.mem_iff_getElem?.2 ⟨_, hp⟩)
  obtain ⟨y, P, D, y1, -, -, -, -, y6, y7⟩ := h.ex
  have hyo : p.path.length = y.o + 1 := by rw [y1, lst_len]
  rw [← hbay] at y6
  have hwin : q.t + (y.o : Int) < (T.base : Int) + 256 := by unfold Rq.hz at y7; omega
  have htt : q.t + (p.path.length : Int) - 1 = q.t + y.o := by omega
  rw [htt]
  have hkk : p.path.length - 1 = y.o := by omega
  rw [hkk] at hL hp hcell y6 ⊢
  generalize p.path.getD y.o 0 = c at *
  clear hbay hval hroom g1 hlt hk
  have s1 : U.place q.r c (q.t + y.o) = 0 := by
    unfold TS.place
    rw [if_neg (by simp; rw [hL.nr, hL.nc]; omega), hL.base, if_neg (by omega), if_neg (by omega)]
  have hmax : (max q.t (T.base : Int)).toNat = q.t.toNat := by omega
  obtain ⟨rn, hrn⟩ : ∃ rn : Nat, q.r = rn := ⟨q.r.toNat, by omega⟩
  have hsp : U.sp = cutS rn q.t.toNat T.sp := by
    rw [hL.sp]
    unfold TS.trunc
    simp only
    rw [hmax, hrn]
    rfl
  have s2 : U.later q.r (-1) (q.t + y.o) = false := by
    rw [later_no (fun ⟨b, x, e1, e2, _⟩ => by rw [hL.tmr b e2] at e1; cases e1), hsp, hrn]
    exact spLater_own rn _ _ _ (by omega) _
  have s3 : U.freeF q.r c (q.t + y.o) = true := by
    have hff : T.freeFF q.r c (q.t + y.o) 0 T.nr = true := by
      unfold TS.freeF at y6
      simp at y6
      exact y6.2.2.2
    have : U.freeFF q.r c (q.t + y.o) 0 U.nr = true := freeFF_of U.nr 0 (fun j _ hj hjr => by
      have hl := freeFF_at T.nr 0 hff j (by omega) (by rw [← hL.nr]; exact hj) hjr
      obtain ⟨l1, l2⟩ := later_off hT.m hl
      rw [later_no (fun ⟨b, x, e1, e2, e3⟩ => l1 ⟨b, x, by rw [← hL.tmo _ _ hjr]; exact e1, e2, e3⟩), hsp]
      exact spLater_cut rn _ _ _ _ _ (by rw [← hrn]; exact hjr) l2)
    unfold TS.freeF TS.rOk TS.cOk TS.askOk
    rw [this, hL.nr, hL.nc, hL.base]
    have := hT.base
    simp
    omega
  have hsit : ∀ a b, a ≠ q.r → (U.sit q.r c (q.t + y.o)).at a b = U.at a b := fun a b hab => by
    rcases sit_at (T := U) hr.1 hcell.1 (by omega : 0 ≤ q.t + (y.o : Int)) a b with e | ⟨e, -, -⟩
    · exact e
    · exact absurd e hab
  have hprev : (U.sit q.r c (q.t + y.o)).at q.r (q.t + y.o - 1) = U.at q.r (q.t + y.o - 1) := by
    rcases sit_at (T := U) hr.1 hcell.1 (by omega : 0 ≤ q.t + (y.o : Int)) q.r (q.t + y.o - 1) with e | ⟨-, e, -⟩
    · exact e
    · omega
  have hhere : (U.sit q.r c (q.t + y.o)).at q.r (q.t + y.o) = c := by
    have htm : U.tm q.r (q.t + y.o) = none := hL.tmr _ (by omega)
    have hat : U.at q.r (q.t + y.o) = -1 := by rw [hL.own _ (by omega), if_neg (by omega)]
    unfold TS.at at hat ⊢
    show (match U.tm q.r (q.t + y.o) with | some c => c | none => spAt (U.sp ++ [⟨q.r.toNat, c.toNat, (q.t + y.o).toNat, 1099511627776⟩]) q.r (q.t + y.o)) = c
    rw [htm] at hat ⊢
    simp only at hat ⊢
    rw [spAt_app_off (fun z hz => by
      rw [hsp] at hz
      rw [hrn]
      exact cut_off rn q.t.toNat _ (by omega) T.sp z hz)]
    have hb := hT.base
    rw [if_pos (by unfold Sg.on; simp; omega)]
    simp only
    omega
  have s4 : (U.sit q.r c (q.t + y.o)).crossed q.r (q.t + y.o - 1) = false := no_cross hF hT hnr h hp (U := U.sit q.r c (q.t + y.o)) hL.nr hhere (by rw [hprev]; exact lay_prev hL) (fun a b hab => by rw [hsit a b hab]; exact hL.oth a b hab)
  have s5 : ¬ U.cap < U.held + 1 := by rw [hL.held, hL.cap]; omega
  have hst : U.stand q.r c (q.t + y.o) = (0, U.sit q.r c (q.t + y.o)) := by
    unfold TS.stand TS.stand3
    rw [if_neg (by omega), if_neg (by rw [s2]; simp), if_neg (by rw [s3]; simp), if_neg (by rw [s4]; simp), if_neg s5]
  rw [hst]
  simp
/-- A request that fails leaves the table as it is. -/
theorem plan_same {S : PS} (hF : FOk F) (hT : TInv T) (hnr : T.nr = F.bays.length) (hnc : T.nc = F.n) (hms : S.ms ≤ 4000000) (hc : (PS.plan F T q S).2.2.c ≠ 0) : (PS.plan F T q S).2.1 = T := by
  unfold PS.plan at hc ⊢
  by_cases hs : (PS.search F T q S).2.c = 0
  · rw [if_pos hs] at hc ⊢
    simp only at hc ⊢
    have hfd := search_good hF hms hs
    by_cases hroom : (T.cap : Int) - (T.held : Int) + T.remov q.r q.t < ((PS.search F T q S).2.path.length : Int)
    · unfold TS.enter
      rw [if_pos hroom]
    · have := enter_ok hF hT hnr hnc hfd hroom
      rw [this] at hc
      unfold entP at hc
      rw [if_neg (by simp)] at hc
      exact absurd hs hc
  · rw [if_neg hs]
end
end Go.Proofs.Qxb6500716a
