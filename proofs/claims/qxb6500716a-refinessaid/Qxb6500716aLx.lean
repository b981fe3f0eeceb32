/-
  ArrivalIsEarliest: a search beside the script; Solve as a whole.
-/
import Derived.Test.Qxb6500716aLa
import Derived.Test.Qxb6500716aSj
import Derived.Test.Qxb6500716aAr
namespace Go.Proofs.Qxb6500716a
open Go.RowKit Go.Maps
set_option linter.unusedSimpArgs false
set_option linter.unusedVariables false
set_option maxRecDepth 20000
set_option maxHeartbeats 4000000
def slvP (w : World) (F : FS) (T : TS) (q : Rq) (e : Ending) (w' : World) : Prop :=
  Below w.heap.size w w' ∧ ∃ (code : Nat) (arr : Int), e = .returned (.tuple #[.int .u8 code, .int .i64 (arr)]) ∧
    ((rcode F T q ≠ 0 ∧ code = 2 ∧ arr = 0) ∨ (rcode F T q = 0 ∧ ((T.blk q F.bays.length = true ∧ code = 3 ∧ arr = 0) ∨ (T.blk q F.bays.length = false ∧ Solved F T q (F.park q.r).1 (q.hz T) code arr))))
theorem solve_any (mb fb : Nat) (M : TM) (F : FS) (T : TS) (lab : Nat → Nat) (q : Rq) (gv : Value) (w : World) (hF : FAt w lab fb F) (hT : TAt w lab M T) (hm : MoAt w mb fb M.t) (hg : GAt w lab gv q.gl) :
    Calls Try.prog 34 #[.pointer (some ⟨mb, 0, none⟩), .agg #[.int .i64 ((q).r), .int .i64 ((q).s), .int .i64 ((q).t), gv, .int .i64 ((q).h), .int .i64 ((q).m)]] w (slvP w F T q) := by
  by_cases h0 : rcode F T q = 0
  · refine (solve_ok mb fb M F T lab q gv w hF hT hm hg h0).mono ?_
    rintro e w' ⟨hB, code, arr, he, h⟩
    exact ⟨hB, code, arr, he, Or.inr ⟨h0, h⟩⟩
  · refine (solve_bad mb fb M F T lab q gv w hF hT hm hg h0).mono ?_
    rintro e w' ⟨he, z, rfl⟩
    exact ⟨World.below_ext w z, 2, 0, he, Or.inl ⟨h0, rfl, rfl⟩⟩
section
variable {w0 wr w5 : World} {lab lab5 : Nat → Nat} {d c : Nat} {m : DM} {D : Dk}
theorem Play.call2 (h : Play w0 wr lab d c m D) {sb so n i : Nat} {o : Nat → Opr} {lao : Nat → Option Addr} {lcap : Nat → Nat} (hS : Scr w0 sb so n o lao lcap) (hi : i < n) (hc : c ≤ 200000) (hl : (o i).l.length ≤ 65536) :
    Calls Try.prog 12 #[.pointer (some ⟨d, 0, none⟩), .agg #[.int .i64 ((o i).K), .int .i64 ((o i).A), .int .i64 ((o i).B), .int .i64 ((o i).C), .int .i64 ((o i).D), .int .i64 ((o i).E), .slice (lao i) (o i).l.length (lcap i)]] wr (doPost lab d (D.step (o i)) wr) := by
  obtain ⟨hA, hB, hC, hD, hE⟩ := hS.op i hi
  refine do_any d m D (o i) _ lab wr h.dk (((hS.iv i hi).relab (lab' := lab) (fun b hb _ => Or.inl (h.l0 b hb))).keptL (A := fun _ => False) (KeptL.of_below h.bl) (fun _ h => h.elim)) ⟨hA, hB, hC, hD, hE, hl⟩ (fun X hX => (h.wb X hX).ok (by omega))
/-- A search beside the script. -/
theorem Play.asked (h : Play w0 wr lab d c m D) {X : Wd} (hW : D.W = some X) {q : Rq} {fb : Nat} {M : TM} {N N' : PM} {n' : Nat} (hf : m.fv = .pointer (some ⟨fb, 0, none⟩)) (ht : m.tv = .pointer (some ⟨M.t, 0, none⟩)) (hp : m.pv = .pointer (some ⟨N.p, 0, none⟩)) (hF : FAt wr lab fb X.F) (hT : TAt wr lab M X.T) (hP : PAt w5 lab5 N' fb M.t (PS.ask X.F X.T q X.S).1 n') (hN : N'.p = N.p) (hl : ∀ k, k < wr.heap.size → lab5 k = lab k) (hk : KeptL lab seaL wr w5) :
    Play w0 w5 lab5 d (c + 1) m { D with W := some ⟨X.F, X.T, (PS.ask X.F X.T q X.S).1⟩ } := by
  have hs := h.bl.size
  have hk5 : KeptL lab5 seaL wr w5 := ⟨hk.os, hk.tape, hk.output, hk.size, fun k h1 h2 => hk.block k h1 (by rw [← hl k h1]; exact h2)⟩
  have hsea : ∀ x, seaL x → 4 < x ∧ x < 10 := fun x hx => by unfold seaL at hx; omega
  have hrl : ∀ b, b < wr.heap.size → (lab b = 0 ∨ 10 ≤ lab b) → (lab5 b = 0 ∨ 10 ≤ lab5 b) := fun b hb h1 => by rw [hl b hb]; exact h1
  have hX := h.wb X hW
  have hms := ask_ms (T := X.T) (q := q) hF.ok hX.ms
  have hpl := search_pl (T := X.T) (q := q) hF.ok hX.ms
  have hnb := noteSt_bd hX.st hpl.c ⟨hpl.x.1, hpl.x.2.2⟩ hpl.ln
  refine ⟨⟨(h.dk.b.keptL hk (by rw [h.dk.ld]; exact fun hx => by have := hsea _ hx; omega)), (hl d h.dk.b.lt).trans h.dk.ld, ?_, ?_, ?_, ?_, h.dk.nl⟩, ⟨hk.os.trans h.bl.os, hk.tape.trans h.bl.tape, hk.output.trans h.bl.output, Nat.le_trans hs hk.size, fun j hj => ?_⟩, fun j hj => (hl j (by omega)).trans (h.l0 j hj), ?_⟩
  · exact ⟨fb, M, N', n', hf, ht, by rw [hN]; exact hp, (hF.relab hrl).keptL hk5 (fun x hx => by have := hsea x hx; omega), (hT.relab hl).keptL hk5 (fun hx => by have := hsea _ hx; omega) (fun hx => by have := hsea _ hx; omega) (fun hx => by have := hsea _ hx; omega), hP⟩
  · exact (h.dk.g.relab hrl).keptL hk5 (fun x hx => by have := hsea x hx; omega)
  · exact (h.dk.pp.relab hrl).keptL hk5 (fun x hx => by have := hsea x hx; omega)
  · exact (h.dk.pd.relab hrl).keptL hk5 (fun x hx => by have := hsea x hx; omega)
  · rw [hk.block j (by omega) (by rw [h.l0 j hj]; exact fun hx => by have := hsea _ hx; omega)]
    exact h.bl.block j hj
  · intro Y hY
    simp only [Option.some.injEq] at hY
    rw [← hY]
    refine ⟨hX.nr, hX.nc, hX.held, hms.1, fun i hi => ?_, fun h0 => ?_⟩
    · have := hnb.1 i hi
      simp only
      rw [hms.2]
      unfold PS.ask
      simp only
      omega
    · simp only at h0
      rw [hms.2] at h0
      have := hnb.2
      unfold PS.ask at h0
      simp only at h0
      omega
end
end Go.Proofs.Qxb6500716a
