/- A slice of steps as the row reads it, opened. -/
import Derived.Test.YtigefaacknlkoaaMemPlay
import Derived.ChangeSlices
import Derived.WideShapes
import Derived.Carry
import Derived.OpenShut
import Derived.ProofKit
set_option linter.unusedVariables false
namespace Go.Proofs.Ytigefaacknlkoaa
open Go.RowKit Go.Proofs.Num Go.ChangeShapes
theorem wf32 {a : Int} (h : (Lit.int .u32 a).wf = true) : ∃ n : Nat, n < 4294967296 ∧ a = n := by
  have h1 : IntKind.u32.min = 0 := rfl
  have h2 : IntKind.u32.max = 4294967295 := rfl
  simp only [Lit.wf, Bool.and_eq_true, decide_eq_true_eq] at h
  exact ⟨a.toNat, by omega, by omega⟩
theorem wf8 {a : Int} (h : (Lit.int .u8 a).wf = true) : ∃ n : Nat, n < 256 ∧ a = n := by
  have h1 : IntKind.u8.min = 0 := rfl
  have h2 : IntKind.u8.max = 255 := rfl
  simp only [Lit.wf, Bool.and_eq_true, decide_eq_true_eq] at h
  exact ⟨a.toNat, by omega, by omega⟩
theorem spot_none {w : World} {a : Addr} {v : Value} (h : w.cell? a = some v) : a = ⟨a.block, a.off, none⟩ := by
  unfold World.cell? at h
  split at h
  · split at h
    · cases h
    · rename_i hs
      obtain ⟨b, o, s⟩ := a
      cases s with
      | none => rfl
      | some x => simp at hs
  · cases h
theorem cell_lt {w : World} {a : Addr} {v : Value} (h : w.cell? a = some v) : a.block < w.heap.size := by
  unfold World.cell? at h
  rcases Nat.lt_or_ge a.block w.heap.size with l | l
  · exact l
  · rw [Array.getElem?_eq_none l] at h; cases h
theorem add_plain (b o n : Nat) : (⟨b, o, none⟩ : Addr).add n = ⟨b, o + n, none⟩ := by
  unfold Addr.add
  split
  · rename_i h; subst h; rfl
  · rfl
theorem open_step {H : Type} {enc : TypeId × Value → H} {w : World} {base : Nat} {spare : Nat → Bool} {held : Bool} {n : Nat} {cs : List Value} {x : DataW H × List MemPlace}
    (h : DataW.trod enc Try.prog w base spare held n 49 cs = some x) (hl : cs.length = 4) :
    ∃ s : Ecc.Step, s.1 < 256 ∧ s.2.2.2 < 4294967296 ∧ cs = [.int .u8 s.1, .int .i64 s.2.1, .int .i64 s.2.2.1, .int .u32 s.2.2.2] := by
  match cs, hl with
  | [v0, v1, v2, v3], _ =>
    obtain ⟨xs, m, _, _, _, hlen, hf⟩ := DataW.trod_struct Try.underlying49 h
    match xs, hlen with
    | [x0, x1, x2, x3], _ =>
      have g0 : DataW.trod enc Try.prog w base spare held m 5 (([v0, v1, v2, v3].drop 0).take (Try.prog.cellsOf 5)) = some x0 := hf 0 _ rfl
      have g1 : DataW.trod enc Try.prog w base spare held m 3 (([v0, v1, v2, v3].drop 1).take (Try.prog.cellsOf 3)) = some x1 := hf 1 _ rfl
      have g2 : DataW.trod enc Try.prog w base spare held m 3 (([v0, v1, v2, v3].drop 2).take (Try.prog.cellsOf 3)) = some x2 := hf 2 _ rfl
      have g3 : DataW.trod enc Try.prog w base spare held m 22 (([v0, v1, v2, v3].drop 3).take (Try.prog.cellsOf 22)) = some x3 := hf 3 _ rfl
      rw [show Try.prog.cellsOf 5 = 1 by kernel_rfl] at g0
      rw [show Try.prog.cellsOf 3 = 1 by kernel_rfl] at g1 g2
      rw [show Try.prog.cellsOf 22 = 1 by kernel_rfl] at g3
      obtain ⟨n0, e0, _, w0⟩ := DataW.trod_int Try.underlying5 g0
      obtain ⟨n1, e1, _, w1⟩ := DataW.trod_int Try.underlying3 g1
      obtain ⟨n2, e2, _, w2⟩ := DataW.trod_int Try.underlying3 g2
      obtain ⟨n3, e3, _, w3⟩ := DataW.trod_int Try.underlying22 g3
      obtain ⟨m0, h0, rfl⟩ := wf8 w0
      obtain ⟨m3, h3, rfl⟩ := wf32 w3
      refine ⟨(m0, n1, n2, m3), h0, h3, ?_⟩
      simp at e0 e1 e2 e3
      rw [e0, e1, e2, e3]
theorem open_steps {H : Type} {enc : TypeId × Value → H} {w : World} {base : Nat} {spare : Nat → Bool} {held : Bool} {v : Value} {d : DataW H} {ps : List MemPlace}
    {r : Reach} {b0 : Nat} (hval : Value.okWide Try.prog w r b0 38 v) (h : DataW.Trod enc Try.prog w base spare held 38 v d ps) : ∃ S, StepsAt w v S := by
  obtain ⟨va, vl, vc, rfl⟩ := WideShapes.okWide_slice Try.underlying38 hval
  obtain ⟨fu, h⟩ := h
  rcases DataW.trod_slice Try.underlying38 h with ⟨hv, _⟩ | ⟨a, len, cap, elems, rest, n, _, hv, _, _, _, _, hlen, hel, _⟩
  · simp only [Value.cells, List.cons.injEq, and_true] at hv
    exact ⟨[], ⟨Or.inl ⟨rfl, none, 0, hv⟩, fun s hs => absurd hs (by simp)⟩⟩
  · simp only [Value.cells, List.cons.injEq, and_true, Value.slice.injEq] at hv
    obtain ⟨rfl, rfl, rfl⟩ := hv
    have c4 : Try.prog.cellsOf 49 = 4 := by kernel_rfl
    have each : ∀ j, j < vl → ∃ s : Ecc.Step, s.1 < 256 ∧ s.2.2.2 < 4294967296 ∧ w.cell? (a.add (j * 4)) = some (.int .u8 s.1) ∧ w.cell? ((a.add (j * 4)).add 1) = some (.int .i64 s.2.1) ∧
        w.cell? ((a.add (j * 4)).add 2) = some (.int .i64 s.2.2.1) ∧ w.cell? ((a.add (j * 4)).add 3) = some (.int .u32 s.2.2.2) := by
      intro j hj
      have hE := hel j hj
      rw [c4, List.getElem?_eq_getElem (by omega)] at hE
      obtain ⟨cs, hc, ht⟩ := Option.bind_eq_some_iff.1 hE
      obtain ⟨_, hl, hcell⟩ := World.cells?_some hc
      obtain ⟨s, h0, h3, rfl⟩ := open_step ht hl
      exact ⟨s, h0, h3, hcell 0 (by decide), hcell 1 (by decide), hcell 2 (by decide), hcell 3 (by decide)⟩
    rcases Nat.eq_zero_or_pos vl with rfl | hpos
    · exact ⟨[], ⟨Or.inl ⟨rfl, some a, vc, rfl⟩, fun s hs => absurd hs (by simp)⟩⟩
    · obtain ⟨s0, _, _, q0, _⟩ := each 0 hpos
      have q1 : w.cell? a = some (.int .u8 s0.1) := by simpa [Addr.add] using q0
      have hb := cell_lt q1
      have ha := spot_none q1
      obtain ⟨b, o, sp⟩ := a
      simp only at ha hb
      injection ha with _ _ ha
      subst ha
      obtain ⟨f, hf⟩ := Classical.axiomOfChoice (fun j : Fin vl => each j.1 j.2)
      refine ⟨List.ofFn f, ⟨Or.inr ⟨b, o, vc, by rw [List.length_ofFn], hb, fun j hj => ?_⟩, fun s hs => ?_⟩⟩
      · rw [List.length_ofFn] at hj
        obtain ⟨_, _, e0, e1, e2, e3⟩ := hf ⟨j, hj⟩
        rw [add_plain] at e0 e1 e2 e3
        rw [add_plain] at e1 e2 e3
        rw [List.getElem_ofFn]
        exact ⟨e0, e1, e2, e3⟩
      · obtain ⟨j, rfl⟩ := List.mem_ofFn.1 hs
        exact ⟨(hf j).1, (hf j).2.1⟩
/-- An argument reads behind the call as it did before. -/
theorem below_trod {H : Type} {enc : TypeId × Value → H} {P : Program} {t : TypeId} (hl : laidOutB P = true) (hr : P.readableRec t = true) (hrow : t < P.types.size) {W W' : World} {v : Value} {d : DataW H} {ps : List MemPlace}
    (h : DataW.Trod enc P W 0 (fun _ => true) true t v d ps) (hb : Below W.heap.size W W') (hlt : ∀ x ∈ ps, x.block < W.heap.size) {sp : Nat → Bool} (hsp : ∀ x ∈ ps, sp x.block = true) :
    DataW.Trod enc P W' 0 sp true t v d ps :=
  WideElems.Trod_stays hl hr hrow h (fun x hx => hb.same (hlt x hx)) hsp
end Go.Proofs.Ytigefaacknlkoaa
