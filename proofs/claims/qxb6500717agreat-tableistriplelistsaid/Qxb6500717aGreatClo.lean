/-
  Clone: a copy of the table.
-/
import Derived.Test.Qxb6500717aGreatDk
namespace Go.Proofs.Qxb6500717aGreat
open Go.RowKit
set_option linter.unusedSimpArgs false
set_option linter.unusedVariables false
set_option maxRecDepth 20000
set_option maxHeartbeats 4000000

/-- 'append' as a single operation. -/
theorem oper_app {P : Program} {w : World} {o : Oper} {a : Act} {K : Act → World → Prop} {Q : Exit → Act → World → Prop} (hgd : o.guard = none) (s x : Operand) (t : TypeId)
    (ho : o.op = .call { callee := .builtin .append, args := #[s, x], argTypes := #[t, t] })
    (base : Nat) (e : TypeId) (z : Value) (size bytes : Nat) (ht : P.underlying t = some (.slice e)) (hinfo : (P.info? e).map (fun i => (i.zero, i.size, i.bytes)) = some (some z, size, bytes))
    (hzs : z.cells.size = size) (hsz : 0 < size)
    (v : Value) (n : Nat) (xs : List Value) (hs : a.eval s = v) (hown : w.ownsRow base e size v n xs)
    (b2 o2 m c : Nat) (news : List Value) (hx : a.eval x = .slice (some ⟨b2, o2, none⟩) m c) (hl : news.length = m * size) (hnews : ∀ j u, news[j]? = some u → w.cell? ⟨b2, o2 + j, none⟩ = some u) (h1 : ∀ u ∈ news, u.oneCell' = true)
    (h63 : n + m ≤ 9223372036854775807) (hbytes : (n + m) * bytes ≤ 140737488355328) (hbase : base ≤ w.heap.size)
    (h : ∀ v' w', w'.ownsRow base e size v' (n + m) (xs ++ news) → Below base w w' → K (a.put o.dst v') w') : Oper.wp P o a w K Q := by
  have := step_app (w := w) (ops := #[]) (E := True) (K := K) (Q := Q) hgd s x t ho base e z size bytes ht hinfo hzs hsz v n xs hs hown b2 o2 m c news hx hl hnews h1 h63 hbytes hbase h
  rwa [if_pos (by simp [Region.wanted, hgd])] at this
/-- n cells. -/
def rowL (n : Nat) (f : Nat → Value) : List Value := (List.range n).map f
theorem rowL_len (n : Nat) (f : Nat → Value) : (rowL n f).length = n * 1 := by unfold rowL; simp
theorem rowL_one (n : Nat) (f : Nat → Value) (h : ∀ i, (f i).oneCell' = true) : ∀ u ∈ rowL n f, u.oneCell' = true := by
  intro u hu
  unfold rowL at hu
  obtain ⟨i, -, rfl⟩ := List.mem_map.1 hu
  exact h i
/-- A row of one cell an element, owned: a block. -/
theorem own_blk {w : World} {base : Nat} {e : TypeId} {v : Value} {n : Nat} {f : Nat → Value} (h : w.ownsRow base e 1 v n (rowL n f)) (hn : 0 < n) :
    ∃ g cap, v = .slice (some ⟨g, 0, none⟩) n cap ∧ n ≤ cap ∧ base ≤ g ∧ Blk w g n f := by
  obtain ⟨h1, h2⟩ := h
  rcases h2 with ⟨_, h2⟩ | ⟨g, cap, cur, hv, hg, hh, hnc, _, hsz, ht⟩
  · omega
  · refine ⟨g, cap, hv, hnc, hg, (Array.getElem?_eq_some_iff.1 hh).1, fun j hj => ?_, fun j hj => ?_⟩
    · rw [cell_of_row _ _ j cur e (0, 0) hh]
      have : (rowL n f)[j]? = some (f j) := by unfold rowL; simp [hj]
      rw [← ht, List.getElem?_take] at this
      split at this
      · simpa using this
      · cases this
    · unfold World.frozen?; simp only [hh]; simp
theorem range_at {n : Nat} {f : Nat → Value} {j : Nat} {u : Value} (h : (rowL n f)[j]? = some u) : j < n ∧ u = f j := by
  unfold rowL at h
  have h1 := (List.getElem?_eq_some_iff.1 h).1
  simp at h1
  simp [h1] at h
  exact ⟨h1, h.symm⟩

/-- A copy that is being laid: the rows of k robots, the spans of ks. -/
structure CloK (T : TabS) (k ks : Nat) (w w4 : World) (lab : Nat → Nat) (M : TabM) : Prop where
  l0 : ∀ j, j < w.heap.size → lab j = 0
  bl : Below w.heap.size w w4
  lt : lab M.t = 6
  lg : lab M.g = 7
  lp : lab M.p = 8
  ls : lab M.s = 9
  bt : Blk w4 M.t 8 (tcell M T)
  bg : Blk w4 M.g (256 * T.nc) (fun i => .int .i8 (T.gr i))
  bp : Blk w4 M.p T.nr (fun j => if j < k then .slice (some ⟨M.pr j, 0, none⟩) 256 (M.pc j) else .slice none 0 0)
  bs : Blk w4 M.s T.nr (fun j => if j < ks then M.sv j else .slice none 0 0)
  rows : ∀ j, j < k → lab (M.pr j) = 10 + j ∧ Blk w4 (M.pr j) 256 (fun s => .int .i16 (T.pl j s))
  spn : ∀ j, j < ks → SpAt w4 lab (20 + j) (M.sv j) (T.sp j)
theorem CloK.done {T : TabS} {w w4 : World} {lab : Nat → Nat} {M : TabM} (hb : TBd T) (h : CloK T T.nr T.nr w w4 lab M) : TAt w4 lab M T :=
  ⟨hb, h.bt, h.bg, h.bp.congr (fun i hi => if_pos hi), fun r hr => (h.rows r hr).2, h.bs.congr (fun i hi => if_pos hi), fun r hr => h.spn r hr, h.lt, h.lg, h.lp, h.ls, fun r hr => (h.rows r hr).1⟩
theorem CloK.row {T : TabS} {k ks : Nat} {w w4 w5 : World} {lab : Nat → Nat} {M : TabM} (hk6 : k < 6) (hks6 : ks ≤ 6) (h : CloK T k ks w w4 lab M) (hk : k < T.nr) (b pcap : Nat) (hb : w4.heap.size ≤ b) (hB : Below w4.heap.size w4 w5) (hr : Blk w5 b 256 (fun s => .int .i16 (T.pl k s))) :
    CloK T (k + 1) ks w (w5.setCell ⟨M.p, k, none⟩ (.slice (some ⟨b, 0, none⟩) 256 pcap)) (upd lab b (10 + k)) { M with pr := upd M.pr k b, pc := upd M.pc k pcap } := by
  have hlt : ∀ {c : Nat}, c < w4.heap.size → c ≠ b := fun hc e => by omega
  have nl : ∀ {c : Nat}, c < w4.heap.size → upd lab b (10 + k) c = lab c := fun hc => upd_ne _ _ (hlt hc)
  have hs5 := hB.size
  have mv : ∀ {c n : Nat} {f : Nat → Value}, Blk w4 c n f → c ≠ M.p → Blk (w5.setCell ⟨M.p, k, none⟩ (.slice (some ⟨b, 0, none⟩) 256 pcap)) c n f := fun hx hne => (hx.below hB).kept ((KeptBut.refl M.p w5).set' _ _) hne
  have ne : ∀ {c x : Nat}, lab c = x → x ≠ 8 → c ≠ M.p := fun h1 h2 e => by rw [e, h.lp] at h1; omega
  refine ⟨fun j hj => ?_, ?_, ?_, ?_, ?_, ?_, ?_, mv h.bg (ne h.lg (by omega)), ?_, (mv h.bs (ne h.ls (by omega))), fun j hj => ?_, fun j hj => ?_⟩
  · rw [nl (by have := h.bl.size; omega)]; exact h.l0 j hj
  · have hp : w.heap.size ≤ M.p := by
      rcases Nat.lt_or_ge M.p w.heap.size with h1 | h1
      · have := h.l0 M.p h1; rw [h.lp] at this; omega
      · exact h1
    exact (h.bl.trans (hB.mono h.bl.size)).setCell hp _
  · exact (nl h.bt.lt).trans h.lt
  · exact (nl h.bg.lt).trans h.lg
  · exact (nl h.bp.lt).trans h.lp
  · exact (nl h.bs.lt).trans h.ls
  · exact (mv h.bt (ne h.lt (by omega))).congr (fun i hi => by rcases (by omega : i = 0 ∨ i = 1 ∨ i = 2 ∨ i = 3 ∨ i = 4 ∨ i = 5 ∨ i = 6 ∨ i = 7) with rfl | rfl | rfl | rfl | rfl | rfl | rfl | rfl <;> rfl)
  · refine ((h.bp.below hB).set k _ hk).congr (fun j hj => ?_)
    show upd _ k _ j = if j < k + 1 then Value.slice (some ⟨upd M.pr k b j, 0, none⟩) 256 (upd M.pc k pcap j) else .slice none 0 0
    by_cases e : j = k
    · subst e; rw [upd_at, upd_at, upd_at, if_pos (by omega)]
    · rw [upd_ne _ _ e, upd_ne _ _ e, upd_ne _ _ e]
      by_cases e2 : j < k
      · simp only [if_pos e2, if_pos (show j < k + 1 by omega)]
      · simp only [if_neg e2, if_neg (show ¬ j < k + 1 by omega)]
  · show upd lab b (10 + k) (upd M.pr k b j) = 10 + j ∧ Blk _ (upd M.pr k b j) 256 _
    by_cases e : j = k
    · subst e
      rw [upd_at, upd_at]
      exact ⟨rfl, hr.kept ((KeptBut.refl M.p w5).set' _ _) (fun e => by have := h.bp.lt; omega)⟩
    · rw [upd_ne _ _ e]
      have := h.rows j (by omega)
      exact ⟨(nl this.2.lt).trans this.1, mv this.2 (ne this.1 (by omega))⟩
  · refine ((h.spn j hj).relab (fun c hc => nl hc)).of (by have := hB.size; simp; omega) (fun c hc e => ?_)
    rw [nl hc] at e
    rw [Below.heap_setCell _ _ _ _ (ne e (by omega)), hB.block c hc]
theorem CloK.span {T : TabS} {k ks : Nat} {w w4 w5 : World} {lab lab' : Nat → Nat} {M : TabM} (hk6 : k ≤ 6) (hks6 : ks < 6) (h : CloK T k ks w w4 lab M) (hk : ks < T.nr) (v : Value) (hB : Below w4.heap.size w4 w5) (hl : ∀ c, c < w4.heap.size → lab' c = lab c) (hr : SpAt w5 lab' (20 + ks) v (T.sp ks)) :
    CloK T k (ks + 1) w (w5.setCell ⟨M.s, ks, none⟩ v) lab' { M with sv := upd M.sv ks v } := by
  have hs5 := hB.size
  have mv : ∀ {c n : Nat} {f : Nat → Value}, Blk w4 c n f → c ≠ M.s → Blk (w5.setCell ⟨M.s, ks, none⟩ v) c n f := fun hx hne => (hx.below hB).kept ((KeptBut.refl M.s w5).set' _ _) hne
  have ne : ∀ {c x : Nat}, lab c = x → x ≠ 9 → c ≠ M.s := fun h1 h2 e => by rw [e, h.ls] at h1; omega
  refine ⟨fun j hj => ?_, ?_, ?_, ?_, ?_, ?_, ?_, mv h.bg (ne h.lg (by omega)), mv h.bp (ne h.lp (by omega)), ?_, fun j hj => ?_, fun j hj => ?_⟩
  · rw [hl j (by have := h.bl.size; omega)]; exact h.l0 j hj
  · have hp : w.heap.size ≤ M.s := by
      rcases Nat.lt_or_ge M.s w.heap.size with h1 | h1
      · have := h.l0 M.s h1; rw [h.ls] at this; omega
      · exact h1
    exact (h.bl.trans (hB.mono h.bl.size)).setCell hp _
  · exact (hl _ h.bt.lt).trans h.lt
  · exact (hl _ h.bg.lt).trans h.lg
  · exact (hl _ h.bp.lt).trans h.lp
  · exact (hl _ h.bs.lt).trans h.ls
  · exact (mv h.bt (ne h.lt (by omega))).congr (fun i hi => by rcases (by omega : i = 0 ∨ i = 1 ∨ i = 2 ∨ i = 3 ∨ i = 4 ∨ i = 5 ∨ i = 6 ∨ i = 7) with rfl | rfl | rfl | rfl | rfl | rfl | rfl | rfl <;> rfl)
  · refine ((h.bs.below hB).set ks _ hk).congr (fun j hj => ?_)
    show upd _ ks _ j = if j < ks + 1 then upd M.sv ks v j else .slice none 0 0
    by_cases e : j = ks
    · subst e; rw [upd_at, upd_at, if_pos (by omega)]
    · rw [upd_ne _ _ e, upd_ne _ _ e]
      by_cases e2 : j < ks
      · simp only [if_pos e2, if_pos (show j < ks + 1 by omega)]
      · simp only [if_neg e2, if_neg (show ¬ j < ks + 1 by omega)]
  · have := h.rows j hj
    exact ⟨(hl _ this.2.lt).trans this.1, mv this.2 (ne this.1 (by omega))⟩
  · show SpAt _ lab' (20 + j) (upd M.sv ks v j) (T.sp j)
    by_cases e : j = ks
    · subst e
      rw [upd_at]
      refine hr.of (by simp) (fun c hc e => ?_)
      rw [Below.heap_setCell _ _ _ _ (fun e2 => by
        have e3 : c = M.s := e2
        rw [e3, hl _ h.bs.lt, h.ls] at e; omega)]
    · rw [upd_ne _ _ e]
      refine ((h.spn j (by omega)).relab hl).of (by have := hB.size; simp; omega) (fun c hc e => ?_)
      rw [hl c hc] at e
      rw [Below.heap_setCell _ _ _ _ (ne e (by omega)), hB.block c hc]

def clonePost (T : TabS) (w : World) (e : Ending) (w' : World) : Prop :=
  ∃ (M2 : TabM) (lab2 : Nat → Nat), e = .returned (.pointer (some ⟨M2.t, 0, none⟩)) ∧ TAt w' lab2 M2 T ∧ (∀ j, j < w.heap.size → lab2 j = 0) ∧ Below w.heap.size w w'
end Go.Proofs.Qxb6500717aGreat
