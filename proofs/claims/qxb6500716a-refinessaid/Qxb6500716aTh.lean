/-
  Stand: the walk.
-/
import Derived.Test.Qxb6500716aTg
namespace Go.Proofs.Qxb6500716a
open Go.RowKit Go.Maps
set_option linter.unusedSimpArgs false
set_option linter.unusedVariables false
set_option maxRecDepth 20000
set_option maxHeartbeats 4000000

/-- 'append(s, x..)' in a region that is walked in its order. -/
theorem wpl_ls {w : World} {ops : Array Oper} {rest : List Oper} {o : Oper} {a : Act} {Q : Exit → Act → World → Prop} (hgd : o.guard = none) (s x : Operand) (t e : TypeId) (z : Value) (sz bytes : Nat)
    (ho : o.op = .call { callee := .builtin .append, args := #[s, x], argTypes := #[t, t] })
    (ht : Try.prog.underlying t = some (.slice e)) (hinfo : (Try.prog.info? e).map (fun i => (i.zero, i.size, i.bytes)) = some (some z, sz, bytes)) (hzs : z.cells.size = sz) (hsz : 0 < sz)
    (lab : Nat → Nat) (tag : Nat) (v : Value) (n : Nat) (vs : List Value) (hs : a.eval s = v) (hls : LAt w lab tag sz v n vs)
    (b2 m c : Nat) (news : List Value) (hm : 0 < m) (hl : (n + m) * bytes ≤ 140737488355328) (hl2 : n + m ≤ 140737488355328) (hx : a.eval x = .slice (some ⟨b2, 0, none⟩) m c) (hn : news.length = m * sz) (hnews : ∀ (j : Nat) u, news[j]? = some u → w.cell? ⟨b2, j, none⟩ = some u) (hone : ∀ u ∈ news, u.oneCell' = true)
    (h : ∀ v' w' lab', LAt w' lab' tag sz v' (n + m) (vs ++ news) → (∀ k, k < w.heap.size → lab' k = lab k) → KeptL lab (fun y => y = tag) w w' → wpList Try.prog ops Q rest (a.put o.dst v') w') : wpList Try.prog ops Q (o :: rest) a w :=
  wpList_plain hgd fun K hK => wp_ls s x t e z sz bytes ho ht hinfo hzs hsz lab tag v n vs hs hls b2 m c news hm hl hl2 hx hn hnews hone (fun v' w' lab' h1 h2 h3 => hK _ _ (h v' w' lab' h1 h2 h3))

theorem LAt.pop {w : World} {lab : Nat → Nat} {tag sz n : Nat} {ao : Option Addr} {cap : Nat} {vs ys : List Value} (h : LAt w lab tag sz (.slice ao (n + 1) cap) (n + 1) (vs ++ ys)) (hv : vs.length = n * sz) : LAt w lab tag sz (.slice ao n cap) n vs := by
  obtain ⟨ao', cap', h1, h2, h3⟩ := h.ex
  simp only [Value.slice.injEq] at h1
  obtain ⟨rfl, -, rfl⟩ := h1
  refine ⟨hv, _, _, rfl, by omega, ?_⟩
  rcases h3 with h3 | ⟨b, e, hl, hp⟩
  · omega
  · refine Or.inr ⟨b, e, hl, hp.lt, hp.has, hp.fz, fun j u hj => ?_, by have := hp.len; rw [List.length_append] at this; omega⟩
    have hjl := (List.getElem?_eq_some_iff.1 hj).1
    exact hp.is j u (by rw [List.getElem?_append_left hjl]; exact hj)

section
variable {w w3 : World} {lab lab' : Nat → Nat} {M : TM} {T : TS}
/-- The spans are replaced. -/
theorem TAt.setS (h : TAt w lab M T) {v : Value} {l : List Sg} (hk : KeptL lab (fun x => x = 4) w w3) (hlab : ∀ k, k < w.heap.size → lab' k = lab k) (hls : LAt w3 lab' 4 4 v l.length (srow l))
    (hl : ∀ x, x ∈ l → x.r < 6 ∧ x.c < T.nc ∧ x.f ≤ 2000000000 ∧ x.u ≤ 1099511627776) (hh : cntM T.tm + l.length ≤ 2000) : TAt (w3.setCell ⟨M.t, 5, none⟩ v) lab' { M with sv := v } { T with sp := l } := by
  have lt' : lab' M.t = 2 := (hlab _ h.bt.lt).trans h.lt
  have hk2 : KeptL lab' (fun x => x = 2) w3 (w3.setCell ⟨M.t, 5, none⟩ v) := (KeptL.refl lab' _ w3).set lt' _
  have bt3 := h.bt.keptL hk (by rw [h.lt]; omega)
  have lm' : lab' M.m = 3 := (hlab _ h.bm.lt).trans h.lm
  refine ⟨{ h.bd with sp := hl, held := hh }, ?_, (h.bm.keptL hk (by rw [h.lm]; omega)).keptL hk2 (by rw [lm']; omega), hls.keptL hk2 (by omega), lt', lm'⟩
  refine (bt3.set 5 v (by omega)).congr (fun i hi => ?_)
  rcases (by omega : i = 0 ∨ i = 1 ∨ i = 2 ∨ i = 3 ∨ i = 4 ∨ i = 5) with rfl | rfl | rfl | rfl | rfl | rfl <;> rfl
end

def tabL (x : Nat) : Prop := x = 2 ∨ x = 3 ∨ x = 4
/-- What a change of the table leaves. -/
def tabPost (lab : Nat → Nat) (M : TM) (v : Value) (T' : TS) (w : World) (e : Ending) (w' : World) : Prop :=
  ∃ (lab' : Nat → Nat) (M' : TM), e = .returned v ∧ TAt w' lab' M' T' ∧ M'.t = M.t ∧ M'.m = M.m ∧ (∀ k, k < w.heap.size → lab' k = lab k) ∧ KeptL lab tabL w w'

def TS.sit (T : TS) (r c t : Int) : TS := { T with sp := T.sp ++ [⟨r.toNat, c.toNat, t.toNat, 1099511627776⟩] }
def TS.stand3 (T : TS) (r c t : Int) : Int × TS :=
  if (T.sit r c t).crossed r (t - 1) = true then (6, T) else if T.cap < T.held + 1 then (7, T) else (0, T.sit r c t)
/-- What 'Stand' answers and leaves. -/
def TS.stand (T : TS) (r c t : Int) : Int × TS :=
  if T.place r c t ≠ 0 then (T.place r c t, T)
  else if T.later r (-1) t = true then (4, T)
  else if T.freeF r c t = false then (5, T)
  else T.stand3 r c t

theorem place_ok {T : TS} {r c t : Int} (h : T.place r c t = 0) : (0 ≤ r ∧ r < (T.nr : Int)) ∧ (0 ≤ c ∧ c < (T.nc : Int)) ∧ (T.base : Int) ≤ t ∧ t < (T.base : Int) + 256 := by
  unfold TS.place at h
  split at h
  · cases h
  · rename_i h1
    simp at h1
    split at h
    · cases h
    · split at h
      · cases h
      · exact ⟨⟨by omega, by omega⟩, ⟨by omega, by omega⟩, by omega, by omega⟩
theorem place_bd (T : TS) (r c t : Int) : 0 ≤ T.place r c t ∧ T.place r c t ≤ 3 := by
  unfold TS.place
  repeat (first | omega | split)

theorem stand_any (M : TM) (T : TS) (lab : Nat → Nat) (r c t : Int) (w : World) (h : TAt w lab M T) (hh : T.held ≤ T.cap) :
    Calls Try.prog 48 #[.pointer (some ⟨M.t, 0, none⟩), .int .i64 (r), .int .i64 (c), .int .i64 (t)] w (tabPost lab M (.int .i64 ((T.stand r c t).1)) (T.stand r c t).2 w) := by
  have HH := hid h
  have PL := hid (place_any M T lab r c t w h)
  have LA := hid (later_any M T lab r (-1) t w h)
  have FR := hid (fun z => freeF_any M T lab r c t (w.ext z) (h.ex z))
  have hlt := h.bt.lt
  unfold TS.stand
  have hpb := place_bd T r c t
  by_cases hp : T.place r c t ≠ 0
  · rw [if_pos hp]
    generalize T.place r c t = x at *
    have b1 : (x != 0) = true := by simp [hp]
    clear h hh
    go_enter Try.func48, Try.ntmps48
    go_wp2_with (first | (go_at_call 74; refine PL.out.mono ?_; rintro e w ⟨rfl, rfl⟩) | (go_at_call 75; refine LA.out.mono ?_; rintro e w' ⟨rfl, z1, rfl⟩) | (go_at_call 58; refine (FR.out _).mono ?_; rintro e w' ⟨rfl, z2, rfl⟩))
    go_ret
    exact ⟨lab, M, rfl, HH.out, rfl, rfl, fun _ _ => rfl, KeptL.refl _ _ _⟩
  · rw [if_neg hp]
    have hp0 : T.place r c t = 0 := by omega
    rw [hp0] at PL
    obtain ⟨hr2, hc2, ht2⟩ := place_ok hp0
    clear hp hpb hp0
    cases hl : T.later r (-1) t with
    | true =>
      rw [hl] at LA
      rw [if_pos rfl]
      clear h hh hl
      go_enter Try.func48, Try.ntmps48
      go_wp2_with (first | (go_at_call 74; refine PL.out.mono ?_; rintro e w ⟨rfl, rfl⟩) | (go_at_call 75; refine LA.out.mono ?_; rintro e w' ⟨rfl, z1, rfl⟩) | (go_at_call 58; refine (FR.out _).mono ?_; rintro e w' ⟨rfl, z2, rfl⟩))
      go_ret
      refine ⟨lab, M, rfl, HH.out.below ?_, rfl, rfl, fun _ _ => rfl, KeptL.of_below ?_⟩
      · (repeat (first | with_reducible exact Below.rf _ | with_reducible exact World.below_ext _ _ | with_reducible refine Below.ex ?_ _ | with_reducible refine Below.al ?_ _ | with_reducible refine Below.setCell ?_ (by simp) _ | with_reducible refine Below.drew ?_))
      · (repeat (first | with_reducible exact Below.rf _ | with_reducible exact World.below_ext _ _ | with_reducible refine Below.ex ?_ _ | with_reducible refine Below.al ?_ _ | with_reducible refine Below.setCell ?_ (by simp) _ | with_reducible refine Below.drew ?_))
    | false =>
      rw [hl] at LA
      rw [if_neg (by simp)]
      cases hf : T.freeF r c t with
      | false =>
        rw [hf] at FR
        rw [if_pos rfl]
        clear h hh hl hf
        go_enter Try.func48, Try.ntmps48
        go_wp2_with (first | (go_at_call 74; refine PL.out.mono ?_; rintro e w ⟨rfl, rfl⟩) | (go_at_call 75; refine LA.out.mono ?_; rintro e w' ⟨rfl, z1, rfl⟩) | (go_at_call 58; refine (FR.out _).mono ?_; rintro e w' ⟨rfl, z2, rfl⟩))
        go_ret
        refine ⟨lab, M, rfl, HH.out.below ?_, rfl, rfl, fun _ _ => rfl, KeptL.of_below ?_⟩
        · (repeat (first | with_reducible exact Below.rf _ | with_reducible exact World.below_ext _ _ | with_reducible refine Below.ex ?_ _ | with_reducible refine Below.al ?_ _ | with_reducible refine Below.setCell ?_ (by simp) _ | with_reducible refine Below.drew ?_))
        · (repeat (first | with_reducible exact Below.rf _ | with_reducible exact World.below_ext _ _ | with_reducible refine Below.ex ?_ _ | with_reducible refine Below.al ?_ _ | with_reducible refine Below.setCell ?_ (by simp) _ | with_reducible refine Below.drew ?_))
      | true =>
        rw [hf] at FR
        rw [if_neg (by simp)]
        have hnr := h.bd.nr
        have hnc := h.bd.nc
        have hbs := h.bd.base
        have hcap := h.bd.cap
        have c5 := h.c5
        have hln := h.ln
        have e2 : T.held ≤ 1536 := by omega
        have HHH := hid hh
        have HLS := hid (fun z => h.bs.below (World.below_ext w z))
        have HFZ := hid (fun w' (hb : Below w.heap.size w w') => (h.bt.below hb).fz)
        have fz5 := h.bt.fz 5 (by omega)
        obtain ⟨res, hres⟩ : ∃ x, T.stand3 r c t = x := ⟨_, rfl⟩
        rw [hres]
        have HRES := hid hres
        obtain ⟨sv, hsv⟩ : ∃ v, M.sv = v := ⟨_, rfl⟩
        rw [hsv] at c5 HLS
        obtain ⟨rn, rfl⟩ : ∃ n : Nat, r = n := ⟨r.toNat, by omega⟩
        obtain ⟨cn, rfl⟩ : ∃ n : Nat, c = n := ⟨c.toNat, by omega⟩
        obtain ⟨tn, rfl⟩ : ∃ n : Nat, t = n := ⟨t.toNat, by omega⟩
        clear h hh hl hf hres hsv
        go_enter Try.func48, Try.ntmps48
        go_wp2_with (first | (go_at_call 74; refine PL.out.mono ?_; rintro e w ⟨rfl, rfl⟩) | (go_at_call 75; refine LA.out.mono ?_; rintro e w' ⟨rfl, z1, rfl⟩) | (go_at_call 58; refine (FR.out _).mono ?_; rintro e w' ⟨rfl, z2, rfl⟩) | (at_builtin; refine hold ?_))
        unfold Hid
        refine wpl_ls rfl _ _ 110 115 (.agg #[.int .i64 (0), .int .i64 (0), .int .i64 (0), .int .i64 (0)]) 4 32 rfl Try.underlying110 (by kernel_rfl) rfl (by decide) lab 4 sv T.sp.length (srow T.sp) rfl ((HLS.out _).below ((Below.rf _).al _)) _ 1 1 (srow [⟨rn, cn, tn, 1099511627776⟩]) (by decide) (by omega) (by omega) rfl rfl ?_ ?_ ?_
        · intro j u hj
          have hj2 := (List.getElem?_eq_some_iff.1 hj).1
          simp [srow] at hj2
          rcases (by omega : j = 0 ∨ j = 1 ∨ j = 2 ∨ j = 3) with rfl | rfl | rfl | rfl <;> simp [srow] at hj <;> subst hj <;> simp [go_sem, ↓IntWalk.iteOmega]
        · simp [srow, Value.oneCell']
        intro v' w3 lab' hls hlab hk
        rw [← srow_app] at hls
        obtain ⟨ao, cp', rfl⟩ := hls.val
        have hsz3 := hk.size
        simp only [World.size_alloc, World.size_ext] at hsz3
        have hlab0 : ∀ k, k < w.heap.size → lab' k = lab k := fun k hk' => hlab k (by simp only [World.size_alloc, World.size_ext]; omega)
        have hk0 : KeptL lab (fun x => x = 4) w w3 := (KeptL.of_below (by (repeat (first | with_reducible exact Below.rf _ | with_reducible exact World.below_ext _ _ | with_reducible refine Below.ex ?_ _ | with_reducible refine Below.al ?_ _ | with_reducible refine Below.setCell ?_ (by simp) _ | with_reducible refine Below.drew ?_)))).trans hk
        have fz3 : w3.frozen? ⟨M.t, 5, none⟩ = false := by rw [hk0.frozen 5 hlt (by rw [HH.out.lt]; omega)]; exact fz5
        have c53 : w3.cell? ⟨M.t, 5, none⟩ = some sv := by rw [hk0.cell 5 hlt (by rw [HH.out.lt]; omega)]; exact c5
        have h2 : TAt (w3.setCell ⟨M.t, 5, none⟩ (.slice ao (T.sp.length + 1) cp')) lab' { M with sv := .slice ao (T.sp.length + 1) cp' } (T.sit rn cn tn) := by
          refine HH.out.setS hk0 hlab0 (by rw [List.length_append]; exact hls) (fun x hx => ?_) ?_
          · rw [List.mem_append] at hx
            rcases hx with hx | hx
            · exact HH.out.bd.sp x hx
            · simp at hx
              subst hx
              simp
              omega
          · rw [List.length_append]
            have := HHH.out
            unfold TS.held at this
            simp
            omega
        have hlt3 : M.t < w3.heap.size := by omega
        have H2 := hid h2
        have HLS2 := hid hls
        have HLAB := hid hlab0
        have hk2 : KeptL lab tabL w (w3.setCell ⟨M.t, 5, none⟩ (.slice ao (T.sp.length + 1) cp')) := (hk0.mono (B := tabL) (fun x hx => Or.inr (Or.inr hx))).set (Or.inl HH.out.lt) _
        have HK2 := hid hk2
        clear hls hlab hk hk0 hlab0 h2 hk2
        go_wp2
        generalize w3.setCell ⟨M.t, 5, none⟩ (.slice ao (T.sp.length + 1) cp') = w4 at *
        have h2 := H2.out
        have hls4 : LAt w4 lab' 4 4 (.slice ao (T.sp.length + 1) cp') (T.sp.length + 1) (srow T.sp ++ srow [⟨rn, cn, tn, 1099511627776⟩]) := by
          have := h2.bs
          unfold TS.sit at this
          simp only [List.length_append, List.length_cons, List.length_nil, srow_app] at this
          exact this
        have h5 : TAt (w4.setCell ⟨M.t, 5, none⟩ (.slice ao T.sp.length cp')) lab' { M with sv := .slice ao T.sp.length cp' } T :=
          h2.setS (KeptL.refl _ _ _) (fun _ _ => rfl) (hls4.pop (srow_len _)) HH.out.bd.sp (by have := HH.out.bd.held; unfold TS.held at this; exact this)
        have H5 := hid h5
        have c24 : w4.cell? ⟨M.t, 2, none⟩ = some (.int .i64 (T.cap)) := h2.c2
        have c54 : w4.cell? ⟨M.t, 5, none⟩ = some (.slice ao (T.sp.length + 1) cp') := h2.c5
        have hlt4 : M.t < w4.heap.size := h2.bt.lt
        have fz4 : w4.frozen? ⟨M.t, 5, none⟩ = false := h2.bt.fz 5 (by omega)
        have hs2 : (T.sit rn cn tn).held = T.held + 1 := by
          unfold TS.sit TS.held
          simp
          omega
        have HE : Hid (∀ z, Calls Try.prog 76 #[.pointer (some ⟨M.t, 0, none⟩)] (w4.ext z) fun e w' => e = .returned (.int .i64 (((T.held + 1 : Nat)))) ∧ ∃ y, w' = (w4.ext z).ext y) := fun z => by
          rw [← hs2]
          exact held_any { M with sv := .slice ao (T.sp.length + 1) cp' } _ lab' (w4.ext z) (h2.ex z)
        have X1 : Hid (∀ z, Calls Try.prog 77 #[.pointer (some ⟨M.t, 0, none⟩), .int .i64 (rn), .int .i64 ((tn : Int) - 1)] (w4.ext z) fun e w' => e = .returned (.bool ((T.sit rn cn tn).crossed rn ((tn : Int) - 1))) ∧ ∃ y, w' = (w4.ext z).ext y) := fun z =>
          crossed_any { M with sv := .slice ao (T.sp.length + 1) cp' } _ lab' rn ((tn : Int) - 1) (w4.ext z) (h2.ex z) (I64.nat (by omega)) (by omega)
        have hcl : cp' ≥ T.sp.length + 1 := by
          obtain ⟨a1, c1, q1, q2, -⟩ := hls4.ex
          simp only [Value.slice.injEq] at q1
          omega
        clear h2 h5 hls4 hs2 HLS2 c53 fz3 hlt3 hsz3 c5 fz5 HLS
        unfold TS.stand3 at HRES
        generalize T.held = hd at *
        generalize (T.sit rn cn tn).crossed rn ((tn : Int) - 1) = p1 at *
        first | with_reducible refine wp_region_ext2 (by kernel_rfl) (by kernel_rfl) ?_ | refine wp_region_ext (by kernel_rfl) (by kernel_rfl) ?_
        repeat (go_big_quiet_step ((go_at_call 76; exact Calls.ext_of (HE.out _))))
        refine wpQuiet_nil ?_
        rintro _ ⟨z, rfl⟩
        by_cases hf : T.cap < hd + 1
        · have bf : ((hd : Int) + 1 > (T.cap : Int)) := by omega
          cases p1 with
          | true =>
            rw [if_pos rfl] at HRES
            have e5 : res = (6, T) := HRES.out.symm
            clear HRES
            subst e5
            go_wp2_with (first | (go_at_call 77; refine (X1.out _).mono ?_; rintro e w' ⟨rfl, z5, rfl⟩))
            first | with_reducible refine wp_region_tail_ext2 12 (by kernel_rfl) (by kernel_rfl) ?_ | refine wp_region_tail_ext 12 (by kernel_rfl) (by kernel_rfl) ?_
            simp only [List.take_succ_cons, List.take_zero, List.drop_succ_cons, List.drop_zero]
            repeat (go_big_quiet_step (fail))
            refine wpQuiet_nil ?_
            rintro _ ⟨z, rfl⟩
            go_wp2
            go_ret
            refine ⟨lab', _, rfl, H5.out.ex _, rfl, rfl, HLAB.out, ?_⟩
            refine KeptL.ex ?_ _
            exact HK2.out.set (Or.inl HH.out.lt) _
          | false =>
            rw [if_neg (by simp), if_pos hf] at HRES
            have e5 : res = (7, T) := HRES.out.symm
            clear HRES
            subst e5
            go_wp2_with (first | (go_at_call 77; refine (X1.out _).mono ?_; rintro e w' ⟨rfl, z5, rfl⟩))
            first | with_reducible refine wp_region_tail_ext2 12 (by kernel_rfl) (by kernel_rfl) ?_ | refine wp_region_tail_ext 12 (by kernel_rfl) (by kernel_rfl) ?_
            simp only [List.take_succ_cons, List.take_zero, List.drop_succ_cons, List.drop_zero]
            repeat (go_big_quiet_step (fail))
            refine wpQuiet_nil ?_
            rintro _ ⟨z, rfl⟩
            go_wp2
            go_ret
            refine ⟨lab', _, rfl, H5.out.ex _, rfl, rfl, HLAB.out, ?_⟩
            refine KeptL.ex ?_ _
            exact HK2.out.set (Or.inl HH.out.lt) _
        · have bf : ¬ ((hd : Int) + 1 > (T.cap : Int)) := by omega
          cases p1 with
          | true =>
            rw [if_pos rfl] at HRES
            have e5 : res = (6, T) := HRES.out.symm
            clear HRES
            subst e5
            go_wp2_with (first | (go_at_call 77; refine (X1.out _).mono ?_; rintro e w' ⟨rfl, z5, rfl⟩))
            first | with_reducible refine wp_region_tail_ext2 12 (by kernel_rfl) (by kernel_rfl) ?_ | refine wp_region_tail_ext 12 (by kernel_rfl) (by kernel_rfl) ?_
            simp only [List.take_succ_cons, List.take_zero, List.drop_succ_cons, List.drop_zero]
            repeat (go_big_quiet_step (fail))
            refine wpQuiet_nil ?_
            rintro _ ⟨z, rfl⟩
            go_wp2
            go_ret
            refine ⟨lab', _, rfl, H5.out.ex _, rfl, rfl, HLAB.out, ?_⟩
            refine KeptL.ex ?_ _
            exact HK2.out.set (Or.inl HH.out.lt) _
          | false =>
            rw [if_neg (by simp), if_neg hf] at HRES
            have e5 : res = (0, T.sit rn cn tn) := HRES.out.symm
            clear HRES
            subst e5
            go_wp2_with (first | (go_at_call 77; refine (X1.out _).mono ?_; rintro e w' ⟨rfl, z5, rfl⟩))
            go_ret
            exact ⟨lab', _, rfl, H2.out.ex _, rfl, rfl, HLAB.out, HK2.out.ex _⟩
end Go.Proofs.Qxb6500716a
