/- The arguments of CourierRestores, opened. -/
import Derived.Test.YtgidckkcibplgaaGreatOpenG
import Derived.Test.YtgidckkcibplgaaGreatPduGaps
set_option linter.unusedVariables false
set_option linter.unusedSimpArgs false
namespace Go.Proofs.YtgidckkcibplgaaGreat
open Go.Proofs.Num Go.ChangeShapes Go.WideShapes Go.ChangeAt Go.RowKit
section
variable {H : Type} {enc : TypeId × Value → H} {w : World} {base : Nat} {spare : Nat → Bool} {held : Bool}
def FidE (w : World) (cs : List Value) (s : Int × Int) : Prop := cs = [.int .i64 s.1, .int .i64 s.2]
set_option maxRecDepth 100000 in
theorem open_fids {v : Value} {d : DataW H} {ps : List MemPlace} {r : Reach} {b0 : Nat} (hval : Value.okWide Tryz.prog w r b0 24 v) (h : DataW.Trod enc Tryz.prog w base spare held 24 v d ps) : ∃ l, RdR w v l := by
  obtain ⟨S, a, cap, h1, h2, h3⟩ := open_slice (E := FidE) (size := 2) Tryz.underlying24 (by kernel_rfl) (by decide) (by
    intro n cs x h hl
    match cs, hl with
    | [u0, u1], _ =>
      obtain ⟨xs, m, _, _, _, hlen, hf⟩ := DataW.trod_struct Tryz.underlying38 h
      match xs, hlen with
      | [x0, x1], _ =>
        have g0 : DataW.trod enc Tryz.prog w base spare held m 3 (([u0, u1].drop 0).take (Tryz.prog.cellsOf 3)) = some x0 := hf 0 _ rfl
        have g1 : DataW.trod enc Tryz.prog w base spare held m 3 (([u0, u1].drop 1).take (Tryz.prog.cellsOf 3)) = some x1 := hf 1 _ rfl
        rw [show Tryz.prog.cellsOf 3 = 1 by kernel_rfl] at g0 g1
        obtain ⟨n0, e0, _, _⟩ := DataW.trod_int Tryz.underlying3 g0
        obtain ⟨n1, e1, _, _⟩ := DataW.trod_int Tryz.underlying3 g1
        simp at e0 e1
        exact ⟨(n0, n1), by unfold FidE; rw [e0, e1]⟩) hval h
  refine ⟨S, a, cap, h1, h2, fun j hj => ?_⟩
  obtain ⟨b, off, cs, g1, g2, g3, g4, g5⟩ := h3 j hj
  unfold FidE at g5
  subst g5
  exact ⟨b, off, g1, g2, g4 0 (by simp), g4 1 (by simp)⟩
set_option maxRecDepth 100000 in
theorem open_cfg {v : Value} {d : DataW H} {ps : List MemPlace} {r : Reach} {b0 : Nat} (hval : Value.okWide Tryz.prog w r b0 23 v) (h : DataW.Trod enc Tryz.prog w base spare held 23 v d ps) :
    ∃ (chunk to re : Int), v = .agg #[.int .i64 chunk, .int .i64 to, .int .i64 re] := by
  obtain ⟨cs, rfl, hs, fu, x, h⟩ := open_aggC Tryz.underlying23 hval h
  rw [show Tryz.prog.cellsOf 23 = 3 by kernel_rfl] at hs
  obtain ⟨l, rfl⟩ : ∃ l : List Value, cs = l.toArray := ⟨cs.toList, by simp⟩
  match l, hs with
  | [u0, u1, u2], _ =>
    obtain ⟨xs, m, _, _, _, hlen, hf⟩ := DataW.trod_struct Tryz.underlying23 h
    match xs, hlen with
    | [x0, x1, x2], _ =>
      have g0 : DataW.trod enc Tryz.prog w base spare held m 3 (([u0, u1, u2].drop 0).take (Tryz.prog.cellsOf 3)) = some x0 := hf 0 _ rfl
      have g1 : DataW.trod enc Tryz.prog w base spare held m 3 (([u0, u1, u2].drop 1).take (Tryz.prog.cellsOf 3)) = some x1 := hf 1 _ rfl
      have g2 : DataW.trod enc Tryz.prog w base spare held m 3 (([u0, u1, u2].drop 2).take (Tryz.prog.cellsOf 3)) = some x2 := hf 2 _ rfl
      rw [show Tryz.prog.cellsOf 3 = 1 by kernel_rfl] at g0 g1 g2
      obtain ⟨a0, ea0, _, _⟩ := DataW.trod_int Tryz.underlying3 g0
      obtain ⟨a1, ea1, _, _⟩ := DataW.trod_int Tryz.underlying3 g1
      obtain ⟨a2, ea2, _, _⟩ := DataW.trod_int Tryz.underlying3 g2
      simp at ea0 ea1 ea2
      exact ⟨a0, a1, a2, by rw [ea0, ea1, ea2]⟩
end
end Go.Proofs.YtgidckkcibplgaaGreat
