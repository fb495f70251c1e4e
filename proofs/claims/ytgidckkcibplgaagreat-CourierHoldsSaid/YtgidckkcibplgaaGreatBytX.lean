/- A byte string that is handed over, opened: without bytes it is nil or lies somewhere. -/
import Derived.Test.YtgidckkcibplgaaGreatEvK2
import Derived.Test.YtgidckkcibplgaaGreatOpenG
set_option linter.unusedVariables false
namespace Go.Proofs.YtgidckkcibplgaaGreat
open Go.Ev Go.RowKit Go.Proofs.Num
/-- A byte string as it is handed over. -/
structure BytesX (w : World) (v : Value) (l : List Nat) : Prop where
  rd : RdX w v l
  lim : l.length ≤ 9223372036854775807
  how : v = .slice none 0 0 ∨ ∃ b off cap, v = .slice (some ⟨b, off, none⟩) l.length cap ∧ l.length ≤ cap
theorem okWide_bytes {P : Program} {w : World} {r : Reach} {base : Nat} {t e : TypeId} {v : Value} (ht : P.underlying t = some (.slice e)) (h : Value.okWide P w r base t v) :
    v = .slice none 0 0 ∨ ∃ b off len cap, v = .slice (some ⟨b, off, none⟩) len cap ∧ len ≤ cap := by
  obtain ⟨a, len, cap, rfl⟩ := Go.WideShapes.okWide_slice ht h
  simp only [Value.okWide, ht, Cell.okWide, Cell.ok] at h
  cases a with
  | none => cases len <;> cases cap <;> simp_all
  | some a =>
    obtain ⟨b, off, sp⟩ := a
    simp only [World.has] at h
    obtain ⟨h1, h2, h3, h4, h5⟩ := h
    subst h4
    exact .inr ⟨b, off, len, cap, rfl, h1⟩
theorem open_bytes {H : Type} {enc : TypeId × Value → H} {P : Program} {w : World} {base : Nat} {spare : Nat → Bool} {held : Bool} {v : Value} {d : DataW H} {ps : List MemPlace} {t e : TypeId} (ht : P.underlying t = some (.slice e)) (he : P.underlying e = some (.int .u8)) (hc1 : P.cellsOf e = 1)
    {r : Reach} {b0 : Nat} (hval : Value.okWide P w r b0 t v) (h : DataW.Trod enc P w base spare held t v d ps) : ∃ l : List Nat, BytesX w v l := by
  obtain ⟨l, hl⟩ := open_u8s ht he hc1 hval h
  have hl2 := hl
  obtain ⟨a, cap, h1, h2⟩ := hl.open
  have hlen : l.length ≤ 9223372036854775807 := by
    obtain ⟨⟨a', cap', g1, ⟨g2, g3⟩, _⟩, _⟩ := hl2
    have hm : maxLen = 9223372036854775807 := by decide
    simp [Go.Proofs.Num.u8s] at g2
    omega
  refine ⟨l, ⟨⟨a, cap, h1, h2⟩, hl.2⟩, hlen, ?_⟩
  rcases okWide_bytes ht hval with h0 | ⟨b, off, len, cap', h0, hc⟩
  · exact .inl h0
  · rw [h1] at h0
    injection h0 with e1 e2 e3
    subst e1 e2 e3
    exact .inr ⟨b, off, cap, h1, hc⟩
end Go.Proofs.YtgidckkcibplgaaGreat
