/-
  floors: the walk.
-/
import Derived.Test.Qxb6500715aFmtDecf
namespace Go
open Go.RowKit
/-- 'append', and which block the row lies in behind it. -/
theorem wp_app2 {P : Program} {w : World} {ops : Array Oper} {rest : List Oper} {o : Oper} {a : Act} {Q : Exit → Act → World → Prop} (hgd : o.guard = none) (s x : Operand) (t : TypeId)
    (ho : o.op = .call { callee := .builtin .append, args := #[s, x], argTypes := #[t, t] })
    (base : Nat) (e : TypeId) (z : Value) (size bytes : Nat) (ht : P.underlying t = some (.slice e)) (hinfo : (P.info? e).map (fun i => (i.zero, i.size, i.bytes)) = some (some z, size, bytes))
    (hzs : z.cells.size = size) (hsz : 0 < size)
    (v : Value) (n : Nat) (xs : List Value) (hs : a.eval s = v) (hown : w.ownsRow base e size v n xs)
    (b2 o2 m c : Nat) (news : List Value) (hx : a.eval x = .slice (some ⟨b2, o2, none⟩) m c) (hl : news.length = m * size) (hnews : ∀ j u, news[j]? = some u → w.cell? ⟨b2, o2 + j, none⟩ = some u) (h1 : ∀ u ∈ news, u.oneCell' = true) (hm : 0 < m)
    (h63 : n + m ≤ 9223372036854775807) (hbytes : (n + m) * bytes ≤ 140737488355328) (hbase : base ≤ w.heap.size)
    (h : ∀ v' w', w'.ownsRow base e size v' (n + m) (xs ++ news) → w.grownBy w' v.ownBlock → (v'.ownBlock = v.ownBlock ∨ v'.ownBlock = some w.heap.size) → wpList P ops Q rest (a.put o.dst v') w') : wpList P ops Q (o :: rest) a w := by
  obtain ⟨i, hi, hz0, hz1, hz2⟩ := info_parts hinfo
  have hnews' : ∀ j u, news[j]? = some u → w.cell? ((⟨b2, o2, none⟩ : Addr).add j) = some u := fun j u hj => by rw [Addr.add_lit]; exact hnews j u hj
  obtain ⟨v', w', hr, h2, h3, h4⟩ := run_append_own (P := P) w base t o.type e i z size bytes ht hi hz0 hz1 hz2 hzs hsz v n xs hown ⟨b2, o2, none⟩ m c news hl hnews' h1 (by simp only [maxLen]; omega) hbytes hbase
  refine wpList_plain hgd fun K hK => ?_
  unfold Oper.wp execOp
  simp only [ho, resolve, invoke, builtin, Sem.run_bind, Sem.run_pure, Result.andThen_ok, List.map_toArray, List.map_cons, List.map_nil, hs, hx, hr]
  refine hK _ _ (h v' w' h2 h3 ?_)
  rcases hown.2 with ⟨rfl, rfl⟩ | ⟨g, cap, cur, rfl, hbg, hg, hnc, hcm, hcs, htake⟩
  · have hr2 := run_append_nil (P := P) w t o.type e i z ht hi hz0 ⟨b2, o2, none⟩ m c news (by rw [hz1]; exact hl) hnews' (by omega) (by omega) (by rw [hz2]; exact Nat.le_trans (show m * bytes ≤ 140737488355328 by simpa using hbytes) (by decide))
    rw [hr] at hr2
    simp only [Result.ok.injEq] at hr2
    right; rw [hr2.1]; rfl
  · by_cases hroom : n + m ≤ cap
    · have hfit : n * i.size + news.length ≤ cur.size := by rw [hz1, hl, hcs, ← Nat.add_mul]; exact Nat.mul_le_mul_right _ hroom
      have hr2 := run_append_room (P := P) w t o.type e i ht hi g n cap cur hg ⟨b2, o2, none⟩ m c news (by rw [hz1]; exact hl) hnews' h1 hroom hfit
      rw [hr] at hr2
      simp only [Result.ok.injEq] at hr2
      left; rw [hr2.1]; rfl
    · have holds : ∀ j u, xs[j]? = some u → w.cell? ((⟨g, 0, none⟩ : Addr).add j) = some u := hown.cells (g := g) rfl
      have hr2 := run_append_grow (P := P) w t o.type e i z ht hi hz0 ⟨g, 0, none⟩ n cap xs (by rw [hz1]; exact hown.1) holds ⟨b2, o2, none⟩ m c news (by rw [hz1]; exact hl) hnews' (by omega) (by omega) (growslice_fits (by omega) (by rw [hz2]; exact hbytes))
      rw [hr] at hr2
      simp only [Result.ok.injEq] at hr2
      right; rw [hr2.1]; rfl
end Go
namespace Go.Proofs.Qxb6500715aFmt
open Go.RowKit
set_option linter.unusedSimpArgs false
set_option linter.unusedVariables false

def ptrs (fbs : List Nat) : List Value := fbs.map fun fb => .pointer (some ⟨fb, 0, none⟩)

/-- The floors built so far. -/
structure FlrsAt (w wr : World) (v : Value) (fbs : List Nat) : Prop where
  own : wr.ownsRow w.heap.size 26 1 v fbs.length (ptrs fbs)
  has : ∀ fb, fb ∈ fbs → HasFlo wr (fun k => w.heap.size ≤ k ∧ k < wr.heap.size ∧ v.ownBlock ≠ some k) fb
  below : Below w.heap.size w wr

theorem FlrsAt.ext {w wr : World} {v : Value} {fbs : List Nat} (h : FlrsAt w wr v fbs) {w' : World} (hb : Below wr.heap.size wr w') : FlrsAt w w' v fbs := by
  have hs := hb.size
  refine ⟨?_, fun fb hf => (h.has fb hf).on hs (fun k hk => ⟨hb.block k hk.2.1, by omega, by omega, hk.2.2⟩), h.below.trans (hb.mono h.below.size)⟩
  obtain ⟨h1, h2⟩ := h.own
  refine ⟨h1, ?_⟩
  rcases h2 with h2 | ⟨g, cap, cur, hv, hg, hh, r⟩
  · exact Or.inl h2
  · exact Or.inr ⟨g, cap, cur, hv, hg, by rw [hb.block g (Array.getElem?_eq_some_iff.1 hh).1]; exact hh, r⟩

def flrsPost (w : World) (n : Nat) (e : Ending) (w' : World) : Prop := ∃ v fbs, e = .returned v ∧ fbs.length ≤ n ∧ FlrsAt w w' v fbs

set_option maxRecDepth 20000 in
set_option maxHeartbeats 2000000 in
theorem floors_any (sb so n cap : Nat) (K A B : Nat → Int) (dao : Nat → Option Addr) (dlen dcap : Nat → Nat) (f : Nat → Nat → Int) (w : World) (hS : Script w sb so n K A B dao dlen dcap f) (hG : Globs w) (hDr : Dirs w) (hn : n ≤ 65536) (hlens : ∀ i, i < n → dlen i ≤ 65536) :
    Calls Tryf.prog 5 #[.slice (some ⟨sb, so, none⟩) n cap] w (flrsPost w n) := by
  have HS := hid hS
  have HG := hid hG
  have HDR := hid hDr
  have HLE := hid hlens
  have hsb := hS.hsb
  clear hS hG hDr hlens
  go_enter Tryf.func5, Tryf.ntmps5
  go_wp2
  go_loopw [3, 10] (fun vq x wr => ∃ (i : Nat) (fbs : List Nat), i ≤ n ∧ x = .int .i64 (i) ∧ fbs.length ≤ i ∧ FlrsAt w wr vq fbs) (fun _ x _ => n - (intOf x).toNat)
  case atStart => exact ⟨0, [], Nat.zero_le _, rfl, Nat.le_refl _, ⟨ownsRow_nil, fun fb hf => (by simp at hf), Below.rf w⟩⟩
  case round =>
    obtain ⟨i, fbs, hi, rfl, hfl, hF⟩ := hrel
    have HF := hid hF
    have hB := hF.below
    have hsz := hB.size
    by_cases hlt : i < n
    · have c0 := HS.out.hK i hlt
      have c1 := HS.out.hA i hlt
      have c2 := HS.out.hB i hlt
      have c3 := HS.out.hD i hlt
      rw [← hB.cell hsb] at c0 c1 c2 c3
      have hln := HS.out.hlen i hlt
      have hl6 := HLE.out i hlt
      have hsr : sb < wr.heap.size := by omega
      rcases Bool.eq_false_or_eq_true (K i == 0) with hk | hk
      · have hk0 : (K i != 0) = false := by simp [bne, hk]
        have bi : decide ((i : Int) < n) = true := by simp; omega
        have HB := hid hB
        clear hF hB
        go_wp2_with fail
        generalize hX : World.alloc wr _ = X
        have hXB : Below wr.heap.size wr X := by rw [← hX]; exact (Below.rf wr).al _
        have hXw : Below w.heap.size w X := HB.out.trans (hXB.mono hsz)
        have hXs := hXB.size
        have hdata := HS.out.hdata i hlt
        refine (decodeF_any (dao i) (dlen i) (dcap i) (f i) X (HG.out.below hXw) (HDR.out.kept (b := w.heap.size) (KeptBut.of_below hXw (Nat.le_refl _)) (by have := HDR.out.lt; omega)) (by omega) hln.1 (HS.out.hf i) (fun hp => by
          obtain ⟨b, off, h1, h2, h3⟩ := hdata hp
          exact ⟨b, off, h1, by omega, fun j hj => by rw [hXw.cell h2]; exact h3 j hj⟩)).mono ?_
        have HXB := hid hXB
        clear hX hXB hXw hdata c0 c1 c2 c3
        rintro e w2 (⟨fb, rfl, hFlo, z, hw2⟩ | ⟨k, o, rfl, hk2, z, hw2⟩)
        · have hB2 : Below X.heap.size X w2 := by rw [hw2]; exact World.below_ext _ _
          have hs2 := hB2.size
          have HF2 := hid (HF.out.ext (HXB.out.trans (hB2.mono hXs)))
          have HFL := hid hFlo
          clear hB2 hw2 hFlo
          go_wp2_with (first | (go_at_call 8; refine (accepted_any _ _ _).mono ?_; rintro e w' ⟨rfl, z2, rfl⟩) | (at_builtin; refine hold ?_))
          show wpList _ _ _ _ _ _
          generalize hY : World.ext (World.alloc w2 _) z2 = Y
          have hYB : Below w2.heap.size w2 Y := by rw [← hY]; exact ((Below.rf _).al _).ex _
          have hYs := hYB.size
          have HYZ : Hid (Y.heap.size = w2.heap.size + 1 + z2.heap.size) := by show _ = _; rw [← hY]; simp
          have hF3 := HF2.out.ext hYB
          have HF3 := hid hF3
          have HFL3 : Hid (HasFlo Y (fun k => X.heap.size ≤ k ∧ k < w2.heap.size) fb) := HFL.out.on hYs (fun k hk => ⟨hYB.block k hk.2, hk⟩)
          clear hY hYB hF3 HF2 HFL
          refine wp_app2 rfl _ _ 24 rfl w.heap.size 26 (.pointer none) 1 8 Tryf.underlying24 (by kernel_rfl) rfl (by decide) _ fbs.length (ptrs fbs) rfl (ownsRow_alloc HF3.out.own _) _ 0 1 1 [.pointer (some ⟨fb, 0, none⟩)] rfl rfl ?_ (by simp [Value.oneCell']) (by decide) (by omega) (by omega) ?_ ?_
          · intro j u hj
            rw [World.cell?_alloc_at _ _ _ _ HYZ.out.symm, Nat.zero_add]; simpa using hj
          · (first | omega | (simp only [World.size_ext, World.size_alloc, World.size_setCell, World.size_drew, Array.size_append]; done) | (simp only [World.size_ext, World.size_alloc, World.size_setCell, World.size_drew, Array.size_append]; omega))
          intro v3 w3 hown3 hg3 hv3
          have hlen3 : w3.ownsRow w.heap.size 26 1 v3 (fbs ++ [fb]).length (ptrs (fbs ++ [fb])) := by
            rw [List.length_append]; unfold ptrs; rw [List.map_append]; exact hown3
          have hg := hg3.size
          have hYA : ∀ k, k < Y.heap.size → (Y.alloc (.cells #[.pointer (some ⟨fb, 0, none⟩)] 26)).heap[k]? = Y.heap[k]? := fun k hk => Below.heap_alloc _ _ _ hk
          simp only [World.size_alloc] at hg hv3
          have hF4 : FlrsAt w w3 v3 (fbs ++ [fb]) := by
            refine ⟨hlen3, fun fb' hf => ?_, ?_⟩
            · have key : ∀ k, k < Y.heap.size → Value.ownBlock _ ≠ some k → w3.heap[k]? = Y.heap[k]? ∧ v3.ownBlock ≠ some k := fun k hk hne =>
                ⟨(hg3.block k (by simp; omega) (Ne.symm hne)).trans (hYA k hk), by
                  rcases hv3 with h | h
                  · rw [h]; exact hne
                  · rw [h]; simp; omega⟩
              rcases List.mem_append.1 hf with h1 | h1
              · exact (HF3.out.has fb' h1).on (by omega) (fun k hk => ⟨(key k hk.2.1 hk.2.2).1, hk.1, by omega, (key k hk.2.1 hk.2.2).2⟩)
              · simp at h1
                subst h1
                refine HFL3.out.on (by omega) (fun k hk => ?_)
                have hne : Value.ownBlock _ ≠ some k := fun e => by
                  have := (HF.out.own.lt k e).2; omega
                exact ⟨(key k (by omega) hne).1, by omega, by omega, (key k (by omega) hne).2⟩
            · refine (HF3.out.below.trans (Below.alloc (Below.refl _ Y) (by omega) _)).grown hg3 (by simp; omega) (fun k hk => (HF.out.own.lt k hk).1)
          have HF4 := hid hF4
          clear hown3 hg3 hv3 hlen3 hF4 hYA
          go_wp2
          go_roundw
          case rel => exact ⟨i + 1, fbs ++ [fb], by omega, by go_num, by simp; omega, HF4.out⟩
          case measure => simp [intOf]; omega
        · have hB2 : Below X.heap.size X w2 := by rw [hw2]; exact World.below_ext _ _
          have hs2 := hB2.size
          have HF2 := hid (HF.out.ext (HXB.out.trans (hB2.mono hXs)))
          clear hB2 hw2
          go_wp2_with (go_at_call 8; refine (Calls.tf (accepted_any _ _ _) hk2).mono ?_; rintro e w' ⟨rfl, z2, rfl⟩)
          go_roundw
          case rel => exact ⟨i + 1, fbs, by omega, by go_num, by omega, HF2.out.ext (((Below.rf _).al _).ex _)⟩
          case measure => simp [intOf]; omega
      · have hk0 : (K i != 0) = true := by simp [bne, hk]
        have bi : decide ((i : Int) < n) = true := by simp; omega
        clear hF hB
        go_wp2
        go_roundw
        case rel => exact ⟨i + 1, fbs, by omega, by go_num, by omega, HF.out.ext ((Below.rf _).al _)⟩
        case measure => simp [intOf]; omega
    · go_wp2
      go_ret
      exact ⟨_, fbs, rfl, by omega, HF.out⟩
end Go.Proofs.Qxb6500715aFmt
