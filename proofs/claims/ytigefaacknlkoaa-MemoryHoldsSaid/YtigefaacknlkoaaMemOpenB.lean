/- The other arguments of the memory's laws, opened. -/
import Derived.Test.YtigefaacknlkoaaMemOpen
set_option linter.unusedVariables false
namespace Go.Proofs.Ytigefaacknlkoaa
open Go.RowKit Go.Proofs.Num Go.ChangeShapes
theorem okWide_array {P : Program} {w : World} {r : Reach} {base n : Nat} {t e : TypeId} {v : Value} (ht : P.underlying t = some (.array n e)) (h : Value.okWide P w r base t v) : ∃ cs, v = .agg cs := by
  simp only [Value.okWide, ht] at h
  obtain ⟨cs, h1, h2, _⟩ := h
  exact ⟨cs, h1⟩
theorem list_two {α : Type} {l : List α} (h : l.length = 2) : ∃ a b, l = [a, b] := by
  match l, h with
  | [a, b], _ => exact ⟨a, b, rfl⟩
theorem list_four {α : Type} {l : List α} (h : l.length = 4) : ∃ a b c d, l = [a, b, c, d] := by
  match l, h with
  | [a, b, c, d], _ => exact ⟨a, b, c, d, rfl⟩
theorem open_bytes2 {H : Type} {enc : TypeId × Value → H} {w : World} {base : Nat} {spare : Nat → Bool} {held : Bool} {v : Value} {d : DataW H} {ps : List MemPlace}
    {r : Reach} {b0 : Nat} (hval : Value.okWide Try.prog w r b0 61 v) (h : DataW.Trod enc Try.prog w base spare held 61 v d ps) : ∃ a b : Nat, a < 256 ∧ b < 256 ∧ v = .agg #[.int .u8 a, .int .u8 b] := by
  obtain ⟨cs, rfl⟩ := okWide_array Try.underlying61 hval
  obtain ⟨fu, h⟩ := h
  obtain ⟨xs, m, _, _, hl, hlen, hf⟩ := DataW.trod_array Try.underlying61 h
  rw [show Try.prog.cellsOf 61 = 2 by kernel_rfl] at hl
  rw [show Try.prog.cellsOf 5 = 1 by kernel_rfl] at hf
  obtain ⟨x0, x1, hx⟩ := list_two hlen
  obtain ⟨c0, c1, hc⟩ := list_two hl
  have hcs : cs = #[c0, c1] := by
    simp only [Value.cells] at hc
    apply Array.ext'
    simpa using hc
  subst hcs
  simp only [Value.cells] at hf
  have g0 := hf 0 (by decide)
  have g1 := hf 1 (by decide)
  rw [hx] at g0 g1
  obtain ⟨n0, e0, _, w0⟩ := DataW.trod_int Try.underlying5 g0
  obtain ⟨n1, e1, _, w1⟩ := DataW.trod_int Try.underlying5 g1
  obtain ⟨m0, h0, rfl⟩ := wf8 w0
  obtain ⟨m1, h1, rfl⟩ := wf8 w1
  simp at e0 e1
  exact ⟨m0, m1, h0, h1, by rw [e0, e1]⟩
theorem open_one_step {H : Type} {enc : TypeId × Value → H} {w : World} {base : Nat} {spare : Nat → Bool} {held : Bool} {v : Value} {d : DataW H} {ps : List MemPlace}
    {r : Reach} {b0 : Nat} (hval : Value.okWide Try.prog w r b0 49 v) (h : DataW.Trod enc Try.prog w base spare held 49 v d ps) :
    ∃ s : Ecc.Step, s.1 < 256 ∧ s.2.2.2 < 4294967296 ∧ v = .agg #[.int .u8 s.1, .int .i64 s.2.1, .int .i64 s.2.2.1, .int .u32 s.2.2.2] := by
  obtain ⟨cs, rfl, hsz⟩ := WideShapes.okWide_struct Try.underlying49 hval
  rw [show Try.prog.cellsOf 49 = 4 by kernel_rfl] at hsz
  obtain ⟨fu, h⟩ := h
  obtain ⟨s, h0, h3, e⟩ := open_step h (by simpa [Value.cells] using hsz)
  refine ⟨s, h0, h3, ?_⟩
  congr 1
  apply Array.ext'
  simpa [Value.cells] using e
end Go.Proofs.Ytigefaacknlkoaa
