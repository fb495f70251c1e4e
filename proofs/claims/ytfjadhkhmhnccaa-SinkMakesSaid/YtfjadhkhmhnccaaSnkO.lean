/- The argument of SinkMakes opened. -/
import Derived.Test.YtfjadhkhmhnccaaOpenG
import Derived.Test.YtfjadhkhmhnccaaProg
import Derived.Test.YtfjadhkhmhnccaaPduGaps
set_option linter.unusedVariables false
set_option linter.unusedSimpArgs false
namespace Go.Proofs.Ytfjadhkhmhnccaa
open Go.Proofs.Num Go.ChangeShapes Go.WideShapes Go.ChangeAt Go.RowKit
section
variable {H : Type} {enc : TypeId × Value → H} {w : World} {base : Nat} {spare : Nat → Bool} {held : Bool}
set_option maxRecDepth 100000 in
set_option maxHeartbeats 1000000 in
theorem open_ends {v : Value} {d : DataW H} {ps : List MemPlace} {r : Reach} {b0 : Nat} (hval : Value.okWide Try.prog w r b0 88 v) (h : DataW.Trod enc Try.prog w base spare held 88 v d ps) :
    ∃ (src num cls chunk timeout retries : Int), v = .agg #[.int .i64 src, .int .i64 num, .int .i64 cls, .int .i64 chunk, .int .i64 timeout, .int .i64 retries] := by
  obtain ⟨cs, rfl, hs, fu, x, h⟩ := open_aggC Try.underlying88 hval h
  rw [show Try.prog.cellsOf 88 = 6 by kernel_rfl] at hs
  obtain ⟨l, rfl⟩ : ∃ l : List Value, cs = l.toArray := ⟨cs.toList, by simp⟩
  match l, hs with
  | [u0, u1, u2, u3, u4, u5], _ =>
    obtain ⟨xs, m, _, _, _, hlen, hf⟩ := DataW.trod_struct Try.underlying88 h
    match xs, hlen with
    | [x0, x1, x2], _ =>
      have g0 : DataW.trod enc Try.prog w base spare held m 23 (([u0, u1, u2, u3, u4, u5].drop 0).take (Try.prog.cellsOf 23)) = some x0 := hf 0 _ rfl
      have g1 : DataW.trod enc Try.prog w base spare held m 3 (([u0, u1, u2, u3, u4, u5].drop 2).take (Try.prog.cellsOf 3)) = some x1 := hf 1 _ rfl
      have g4 : DataW.trod enc Try.prog w base spare held m 26 (([u0, u1, u2, u3, u4, u5].drop 3).take (Try.prog.cellsOf 26)) = some x2 := hf 2 _ rfl
      rw [show Try.prog.cellsOf 23 = 2 by kernel_rfl] at g0
      rw [show Try.prog.cellsOf 3 = 1 by kernel_rfl] at g1
      rw [show Try.prog.cellsOf 26 = 3 by kernel_rfl] at g4
      obtain ⟨ys, m1, _, _, _, hlen1, hf1⟩ := DataW.trod_struct Try.underlying23 g0
      obtain ⟨zs, m2, _, _, _, hlen2, hf2⟩ := DataW.trod_struct Try.underlying26 g4
      match ys, hlen1, zs, hlen2 with
      | [y0, y1], _, [z0, z1, z2], _ =>
        have k0 : DataW.trod enc Try.prog w base spare held m1 3 ((((([u0, u1, u2, u3, u4, u5].drop 0).take 2)).drop 0).take (Try.prog.cellsOf 3)) = some y0 := hf1 0 _ rfl
        have k1 : DataW.trod enc Try.prog w base spare held m1 3 ((((([u0, u1, u2, u3, u4, u5].drop 0).take 2)).drop 1).take (Try.prog.cellsOf 3)) = some y1 := hf1 1 _ rfl
        have j0 : DataW.trod enc Try.prog w base spare held m2 3 ((((([u0, u1, u2, u3, u4, u5].drop 3).take 3)).drop 0).take (Try.prog.cellsOf 3)) = some z0 := hf2 0 _ rfl
        have j1 : DataW.trod enc Try.prog w base spare held m2 3 ((((([u0, u1, u2, u3, u4, u5].drop 3).take 3)).drop 1).take (Try.prog.cellsOf 3)) = some z1 := hf2 1 _ rfl
        have j2 : DataW.trod enc Try.prog w base spare held m2 3 ((((([u0, u1, u2, u3, u4, u5].drop 3).take 3)).drop 2).take (Try.prog.cellsOf 3)) = some z2 := hf2 2 _ rfl
        rw [show Try.prog.cellsOf 3 = 1 by kernel_rfl] at k0 k1 j0 j1 j2
        obtain ⟨a0, ea0, _, _⟩ := DataW.trod_int Try.underlying3 k0
        obtain ⟨a1, ea1, _, _⟩ := DataW.trod_int Try.underlying3 k1
        obtain ⟨b0, eb0, _, _⟩ := DataW.trod_int Try.underlying3 j0
        obtain ⟨b1, eb1, _, _⟩ := DataW.trod_int Try.underlying3 j1
        obtain ⟨b2, eb2, _, _⟩ := DataW.trod_int Try.underlying3 j2
        obtain ⟨n1, e1, _, _⟩ := DataW.trod_int Try.underlying3 g1
        simp at ea0 ea1 eb0 eb1 eb2 e1
        exact ⟨a0, a1, n1, b0, b1, b2, by rw [ea0, ea1, eb0, eb1, eb2, e1]⟩
end
end Go.Proofs.Ytfjadhkhmhnccaa
