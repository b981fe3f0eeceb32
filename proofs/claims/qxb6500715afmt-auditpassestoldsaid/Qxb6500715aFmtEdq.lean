/-
  Edges, plain: twice as many entries as edges; the edges stand in order.
-/
import Derived.Test.Qxb6500715aFmtEdp
namespace Go.Proofs.Qxb6500715aFmt
open Go.RowKit
set_option linter.unusedSimpArgs false
set_option linter.unusedVariables false
theorem len_le' {α : Type} [DecidableEq α] : ∀ {l l' : List α}, l.Nodup → (∀ x, x ∈ l → x ∈ l') → l.length ≤ l'.length
  | [], _, _, _ => Nat.zero_le _
  | a :: l, l', hd, hs => by
    obtain ⟨h1, h2⟩ := List.nodup_cons.1 hd
    have ha := hs a (List.mem_cons_self ..)
    have := len_le' (l := l) (l' := l'.erase a) h2 (fun x hx => (List.mem_erase_of_ne (fun e : x = a => h1 (by rw [← e]; exact hx))).2 (hs x (List.mem_cons_of_mem _ hx)))
    rw [List.length_erase_of_mem ha] at this
    have := List.length_pos_of_mem ha
    simp only [List.length_cons]
    omega
/-- The pairs of neighbours that meet f. -/
def FP.prs (F : FP) (f : Nat → Nat → Bool) : Nat → List (Nat × Nat)
  | 0 => []
  | c + 1 => F.prs f c ++ ((F.adj c).filter (f c)).map (fun b => (c, b))
section
variable {F : FP} {f : Nat → Nat → Bool}
theorem mem_prs {p : Nat × Nat} : ∀ {c : Nat}, p ∈ F.prs f c ↔ p.1 < c ∧ p.2 ∈ F.adj p.1 ∧ f p.1 p.2 = true
  | 0 => by simp [FP.prs]
  | c + 1 => by
    simp only [FP.prs, List.mem_append, mem_prs (c := c), List.mem_map, List.mem_filter]
    constructor
    · rintro (⟨h1, h2, h3⟩ | ⟨b, ⟨h1, h2⟩, rfl⟩)
      · exact ⟨by omega, h2, h3⟩
      · exact ⟨by simp, h1, h2⟩
    · rintro ⟨h1, h2, h3⟩
      by_cases h : p.1 = c
      · exact Or.inr ⟨p.2, ⟨h ▸ h2, h ▸ h3⟩, by rw [← h]⟩
      · exact Or.inl ⟨by omega, h2, h3⟩
theorem prs_nodup (hW : 3 ≤ F.W) : ∀ c, (F.prs f c).Nodup
  | 0 => List.nodup_nil
  | c + 1 => by
    simp only [FP.prs]
    refine List.nodup_append.2 ⟨prs_nodup hW c, ?_, ?_⟩
    · have h1 : (F.adj c).Nodup := List.pairwise_iff_getElem.2 (fun i j hi hj hij => Nat.ne_of_lt (List.pairwise_iff_getElem.1 (adj_asc F hW c) i j hi hj hij))
      have h2 : ((F.adj c).filter (f c)).Nodup := h1.filter _
      exact List.Pairwise.map _ (fun a b hab e => hab (by cases e; rfl)) h2
    · intro x hx y hy e
      have h1 := (mem_prs.1 hx).1
      simp only [List.mem_map] at hy
      obtain ⟨b, -, rfl⟩ := hy
      rw [e] at h1
      exact absurd h1 (by simp)
end
theorem ends_prs (F : FP) : ∀ c, F.ends c = F.prs (fun a b => decide (a < b)) c
  | 0 => rfl
  | c + 1 => by simp only [FP.ends, FP.prs, ends_prs F c, upc]
theorem filt_len (p : Nat → Bool) : ∀ l : List Nat, (l.filter p).length + (l.filter (fun x => !p x)).length = l.length
  | [] => rfl
  | a :: l => by
    have := filt_len p l
    cases h : p a <;> simp [h] <;> omega
theorem prs_len (F : FP) (f : Nat → Nat → Bool) : ∀ c, (F.prs f c).length + (F.prs (fun a b => !f a b) c).length = F.st c
  | 0 => by simp [FP.prs, FP.st, FP.flat]
  | c + 1 => by
    have h1 := prs_len F f c
    have h2 := filt_len (f c) (F.adj c)
    rw [F.st_succ]
    simp only [FP.prs, List.length_append, List.length_map]
    omega
/-- Twice as many entries as edges. -/
theorem ends_len {F : FP} (hp : Plain F) (hW : 3 ≤ F.W) : F.st F.N = 2 * (F.ends F.N).length := by
  have h1 := prs_len F (fun a b => decide (a < b)) F.N
  rw [← ends_prs] at h1
  have e1 : (F.prs (fun a b => !decide (a < b)) F.N).length ≤ (F.ends F.N).length := by
    have hn : ((F.prs (fun a b => !decide (a < b)) F.N).map (fun p => (p.2, p.1))).Nodup :=
      List.Pairwise.map _ (fun a b hab e => hab (by cases a; cases b; simp only [Prod.mk.injEq] at e; rw [e.1, e.2])) (prs_nodup hW F.N)
    have := len_le' hn (l' := F.ends F.N) (fun x hx => by
      simp only [List.mem_map] at hx
      obtain ⟨p, hp1, rfl⟩ := hx
      obtain ⟨g1, g2, g3⟩ := mem_prs.1 hp1
      have hb := adj_lt hp g1 g2
      have hne : p.1 ≠ p.2 := fun e => adj_ne hp g1 (by rw [← e] at g2; exact g2)
      simp only [Bool.not_eq_true', decide_eq_false_iff_not] at g3
      exact (mem_ends F).2 ⟨hb, adj_symm hp g1 g2, by show p.2 < p.1; omega⟩)
    rwa [List.length_map] at this
  have e2 : (F.ends F.N).length ≤ (F.prs (fun a b => !decide (a < b)) F.N).length := by
    have hn : ((F.ends F.N).map (fun p => (p.2, p.1))).Nodup := by
      rw [ends_prs]
      exact List.Pairwise.map _ (fun a b hab e => hab (by cases a; cases b; simp only [Prod.mk.injEq] at e; rw [e.1, e.2])) (prs_nodup hW F.N)
    have := len_le' hn (l' := F.prs (fun a b => !decide (a < b)) F.N) (fun x hx => by
      simp only [List.mem_map] at hx
      obtain ⟨p, hp1, rfl⟩ := hx
      obtain ⟨g1, g2, g3⟩ := (mem_ends F).1 hp1
      have hb := adj_lt hp g1 g2
      exact mem_prs.2 ⟨hb, adj_symm hp g1 g2, by simp; omega⟩)
    rwa [List.length_map] at this
  omega
/-- The edges stand in order. -/
theorem ends_asc (F : FP) (hW : 3 ≤ F.W) : ∀ c, (F.ends c).Pairwise (fun p q => p.1 < q.1 ∨ (p.1 = q.1 ∧ p.2 < q.2))
  | 0 => List.Pairwise.nil
  | c + 1 => by
    simp only [FP.ends]
    refine List.pairwise_append.2 ⟨ends_asc F hW c, ?_, ?_⟩
    · unfold upc
      exact List.Pairwise.map _ (fun a b hab => Or.inr ⟨rfl, hab⟩) ((adj_asc F hW c).filter _)
    · intro p hp q hq
      have h1 := ((mem_ends F).1 hp).1
      have h2 := (mem_upc.1 hq).1
      exact Or.inl (by omega)
theorem ends_next {F : FP} (hW : 3 ≤ F.W) {i a b a' b' : Nat} (h : (F.ends F.N)[i]? = some (a, b)) (h' : (F.ends F.N)[i + 1]? = some (a', b')) : a < a' ∨ (a = a' ∧ b < b') := by
  obtain ⟨h1, h2⟩ := List.getElem?_eq_some_iff.1 h
  obtain ⟨h3, h4⟩ := List.getElem?_eq_some_iff.1 h'
  have := List.pairwise_iff_getElem.1 (ends_asc F hW F.N) i (i + 1) h1 h3 (by omega)
  rw [h2, h4] at this
  exact this
theorem edn_at {F : FP} (hW : 3 ≤ F.W) {i a b : Nat} (h : (F.ends F.N)[i]? = some (a, b)) : edn (F.ends F.N) a b = i := by
  obtain ⟨h1, h2⟩ := List.getElem?_eq_some_iff.1 h
  have hab := ((mem_ends F).1 (List.mem_of_getElem? h)).2.2
  unfold edn
  rw [pr_lt hab]
  have hlt : (F.ends F.N).idxOf (a, b) < (F.ends F.N).length := List.idxOf_lt_length_of_mem (List.mem_of_getElem? h)
  have hg := List.getElem_idxOf hlt
  have hpw := List.pairwise_iff_getElem.1 (ends_asc F hW F.N)
  rcases Nat.lt_trichotomy ((F.ends F.N).idxOf (a, b)) i with hh | hh | hh
  · have := hpw _ _ hlt h1 hh
    rw [hg, h2] at this
    simp at this
  · exact hh
  · have := hpw _ _ h1 hlt hh
    rw [hg, h2] at this
    simp at this
end Go.Proofs.Qxb6500715aFmt
