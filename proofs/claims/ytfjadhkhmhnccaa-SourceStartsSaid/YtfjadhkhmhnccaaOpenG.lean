/- Arguments as the row reads them, opened: slices of anything, structs by value. -/
import Derived.Test.YtfjadhkhmhnccaaOpenS
set_option linter.unusedVariables false
namespace Go.Proofs.Num
open Go.RowKit Go.ChangeShapes
/-- The slice v reads as the list S: each element lies in size cells, of which E speaks. -/
def SliceOf {α : Type} (w : World) (size : Nat) (E : World → List Value → α → Prop) (v : Value) (S : List α) : Prop :=
  ∃ a cap, v = .slice a S.length cap ∧ (S.length ≤ cap ∧ cap ≤ maxLen) ∧ ∀ j, (h : j < S.length) → ∃ b off cs, a = some ⟨b, off, none⟩ ∧ b < w.heap.size ∧ cs.length = size ∧
    (∀ i, (hi : i < cs.length) → w.cell? ⟨b, off + j * size + i, none⟩ = some cs[i]) ∧ E w cs S[j]
theorem SliceOf.below {α : Type} {w w' : World} {size : Nat} {E : World → List Value → α → Prop} {v : Value} {S : List α} (h : SliceOf w size E v S) (hE : ∀ cs s, E w cs s → E w' cs s) (k : Below w.heap.size w w') : SliceOf w' size E v S := by
  obtain ⟨a, cap, h1, h2, h3⟩ := h
  refine ⟨a, cap, h1, h2, fun j hj => ?_⟩
  obtain ⟨b, off, cs, g1, g2, g3, g4, g5⟩ := h3 j hj
  exact ⟨b, off, cs, g1, by have := k.size; omega, g3, fun i hi => by rw [k.cell g2]; exact g4 i hi, hE _ _ g5⟩
theorem SliceOf.nil {α : Type} (w : World) (size : Nat) (E : World → List Value → α → Prop) (a : Option Addr) (cap : Nat) (h : cap ≤ maxLen) : SliceOf w size E (.slice a 0 cap) ([] : List α) :=
  ⟨a, cap, rfl, ⟨Nat.zero_le _, h⟩, fun j hj => absurd hj (by simp)⟩
section
variable {H : Type} {enc : TypeId × Value → H} {P : Program} {w : World} {base : Nat} {spare : Nat → Bool} {held : Bool}
theorem open_sliceC {α : Type} {E : World → List Value → α → Prop} {fu : Nat} {cs : List Value} {x : DataW H × List MemPlace} {t e : TypeId} {size : Nat} (ht : P.underlying t = some (.slice e)) (hc : P.cellsOf e = size) (hpos0 : 0 < size)
    (hE : ∀ n cs x, DataW.trod enc P w base spare held n e cs = some x → cs.length = size → ∃ s, E w cs s)
    (h : DataW.trod enc P w base spare held fu t cs = some x) : ∃ v, cs = [v] ∧ ∃ S : List α, SliceOf w size E v S := by
  rcases DataW.trod_slice ht h with ⟨hv, _⟩ | ⟨a, vl, vc, elems, rest, n, _, hv, _, _, hlc, hcm, hlen, hel, _⟩
  · exact ⟨_, hv, [], SliceOf.nil _ _ _ _ _ (by unfold maxLen; omega)⟩
  · refine ⟨_, hv, ?_⟩
    have each : ∀ j, j < vl → ∃ s : α, ∃ cs : List Value, cs.length = size ∧ (∀ i, (hi : i < cs.length) → w.cell? ((a.add (j * size)).add i) = some cs[i]) ∧ E w cs s := by
      intro j hj
      have hE' := hel j hj
      rw [hc, List.getElem?_eq_getElem (by omega)] at hE'
      obtain ⟨cs, hc2, ht2⟩ := Option.bind_eq_some_iff.1 hE'
      obtain ⟨_, hl, hcell⟩ := World.cells?_some hc2
      obtain ⟨s, hs⟩ := hE _ _ _ ht2 hl
      refine ⟨s, cs, hl, fun i hi => ?_, hs⟩
      have := hcell i (by omega)
      rw [this]
      simp [List.getElem?_eq_getElem hi]
    rcases Nat.eq_zero_or_pos vl with rfl | hpos
    · exact ⟨[], SliceOf.nil _ _ _ _ _ hcm⟩
    · obtain ⟨s0, cs0, l0, q0, _⟩ := each 0 hpos
      have q1 := q0 0 (by omega)
      have e0 : (a.add (0 * size)).add 0 = a := by simp [Addr.add]
      rw [e0] at q1
      have hb := cell_lt q1
      have ha := spot_none q1
      obtain ⟨b, o, sp⟩ := a
      simp only at ha hb
      injection ha with _ _ ha
      subst ha
      obtain ⟨f, hf⟩ := Classical.axiomOfChoice (fun j : Fin vl => each j.1 j.2)
      refine ⟨List.ofFn f, some ⟨b, o, none⟩, vc, by simp, by simpa using ⟨hlc, hcm⟩, fun j hj => ?_⟩
      simp at hj
      obtain ⟨cs, hl, hcell, hs⟩ := hf ⟨j, hj⟩
      refine ⟨b, o, cs, rfl, hb, hl, fun i hi => ?_, by simpa using hs⟩
      have := hcell i hi
      rw [add_plain, add_plain] at this
      exact this
theorem open_slice {α : Type} {E : World → List Value → α → Prop} {v : Value} {d : DataW H} {ps : List MemPlace} {t e : TypeId} {size : Nat} (ht : P.underlying t = some (.slice e)) (hc : P.cellsOf e = size) (hpos0 : 0 < size)
    (hE : ∀ n cs x, DataW.trod enc P w base spare held n e cs = some x → cs.length = size → ∃ s, E w cs s)
    {r : Reach} {b0 : Nat} (hval : Value.okWide P w r b0 t v) (h : DataW.Trod enc P w base spare held t v d ps) : ∃ S : List α, SliceOf w size E v S := by
  obtain ⟨va, vl, vc, rfl⟩ := WideShapes.okWide_slice ht hval
  obtain ⟨fu, h⟩ := h
  obtain ⟨v', hv, r⟩ := open_sliceC ht hc hpos0 hE h
  simp only [Value.cells, List.cons.injEq, and_true] at hv
  rw [← hv] at r
  exact r
/-- A struct that came by value: its cells. -/
theorem open_aggC {v : Value} {d : DataW H} {ps : List MemPlace} {t : TypeId} {fs : Array Field} (ht : P.underlying t = some (.struct fs))
    {r : Reach} {b0 : Nat} (hval : Value.okWide P w r b0 t v) (h : DataW.Trod enc P w base spare held t v d ps) : ∃ cs : Array Value, v = .agg cs ∧ cs.size = P.cellsOf t ∧ ∃ fu x, DataW.trod enc P w base spare held fu t cs.toList = some x := by
  obtain ⟨cs, rfl, hs⟩ := WideShapes.okWide_struct ht hval
  obtain ⟨fu, h⟩ := h
  exact ⟨cs, rfl, hs, fu, _, h⟩
end
end Go.Proofs.Num
