/- The argument of StationNew opened. -/
import Derived.Test.YtafoihbkhgnecaaGreatOpenG
import Derived.Test.YtafoihbkhgnecaaGreatProg
set_option linter.unusedVariables false
set_option linter.unusedSimpArgs false
namespace Go.Proofs.YtafoihbkhgnecaaGreat
open Go.Proofs.Num Go.ChangeShapes Go.WideShapes Go.ChangeAt Go.RowKit
section
variable {H : Type} {enc : TypeId × Value → H} {w : World} {base : Nat} {spare : Nat → Bool} {held : Bool}
set_option maxRecDepth 100000 in
set_option maxHeartbeats 1000000 in
theorem open_station {v : Value} {d : DataW H} {ps : List MemPlace} {r : Reach} {b0 : Nat} (hval : Value.okWide Tryz.prog w r b0 25 v) (h : DataW.Trod enc Tryz.prog w base spare held 25 v d ps) :
    ∃ (craft win size to re fc ft fr : Int), v = .agg #[.int .i64 craft, .int .i64 win, .int .i64 size, .int .i64 to, .int .i64 re, .int .i64 fc, .int .i64 ft, .int .i64 fr] := by
  obtain ⟨cs, rfl, hs, fu, x, h⟩ := open_aggC Tryz.underlying25 hval h
  rw [show Tryz.prog.cellsOf 25 = 8 by kernel_rfl] at hs
  obtain ⟨l, rfl⟩ : ∃ l : List Value, cs = l.toArray := ⟨cs.toList, by simp⟩
  match l, hs with
  | [u0, u1, u2, u3, u4, u5, u6, u7], _ =>
    obtain ⟨xs, m, _, _, _, hlen, hf⟩ := DataW.trod_struct Tryz.underlying25 h
    match xs, hlen with
    | [x0, x1, x2, x3, x4, x5], _ =>
      have g0 : DataW.trod enc Tryz.prog w base spare held m 3 (([u0, u1, u2, u3, u4, u5, u6, u7].drop 0).take (Tryz.prog.cellsOf 3)) = some x0 := hf 0 _ rfl
      have g1 : DataW.trod enc Tryz.prog w base spare held m 3 (([u0, u1, u2, u3, u4, u5, u6, u7].drop 1).take (Tryz.prog.cellsOf 3)) = some x1 := hf 1 _ rfl
      have g2 : DataW.trod enc Tryz.prog w base spare held m 3 (([u0, u1, u2, u3, u4, u5, u6, u7].drop 2).take (Tryz.prog.cellsOf 3)) = some x2 := hf 2 _ rfl
      have g3 : DataW.trod enc Tryz.prog w base spare held m 3 (([u0, u1, u2, u3, u4, u5, u6, u7].drop 3).take (Tryz.prog.cellsOf 3)) = some x3 := hf 3 _ rfl
      have g4 : DataW.trod enc Tryz.prog w base spare held m 3 (([u0, u1, u2, u3, u4, u5, u6, u7].drop 4).take (Tryz.prog.cellsOf 3)) = some x4 := hf 4 _ rfl
      have g5 : DataW.trod enc Tryz.prog w base spare held m 23 (([u0, u1, u2, u3, u4, u5, u6, u7].drop 5).take (Tryz.prog.cellsOf 23)) = some x5 := hf 5 _ rfl
      rw [show Tryz.prog.cellsOf 3 = 1 by kernel_rfl] at g0 g1 g2 g3 g4
      rw [show Tryz.prog.cellsOf 23 = 3 by kernel_rfl] at g5
      obtain ⟨zs, m2, _, _, _, hlen2, hf2⟩ := DataW.trod_struct Tryz.underlying23 g5
      match zs, hlen2 with
      | [z0, z1, z2], _ =>
        have j0 : DataW.trod enc Tryz.prog w base spare held m2 3 ((((([u0, u1, u2, u3, u4, u5, u6, u7].drop 5).take 3)).drop 0).take (Tryz.prog.cellsOf 3)) = some z0 := hf2 0 _ rfl
        have j1 : DataW.trod enc Tryz.prog w base spare held m2 3 ((((([u0, u1, u2, u3, u4, u5, u6, u7].drop 5).take 3)).drop 1).take (Tryz.prog.cellsOf 3)) = some z1 := hf2 1 _ rfl
        have j2 : DataW.trod enc Tryz.prog w base spare held m2 3 ((((([u0, u1, u2, u3, u4, u5, u6, u7].drop 5).take 3)).drop 2).take (Tryz.prog.cellsOf 3)) = some z2 := hf2 2 _ rfl
        rw [show Tryz.prog.cellsOf 3 = 1 by kernel_rfl] at j0 j1 j2
        obtain ⟨a0, ea0, _, _⟩ := DataW.trod_int Tryz.underlying3 g0
        obtain ⟨a1, ea1, _, _⟩ := DataW.trod_int Tryz.underlying3 g1
        obtain ⟨a2, ea2, _, _⟩ := DataW.trod_int Tryz.underlying3 g2
        obtain ⟨a3, ea3, _, _⟩ := DataW.trod_int Tryz.underlying3 g3
        obtain ⟨a4, ea4, _, _⟩ := DataW.trod_int Tryz.underlying3 g4
        obtain ⟨b0, eb0, _, _⟩ := DataW.trod_int Tryz.underlying3 j0
        obtain ⟨b1, eb1, _, _⟩ := DataW.trod_int Tryz.underlying3 j1
        obtain ⟨b2, eb2, _, _⟩ := DataW.trod_int Tryz.underlying3 j2
        simp at ea0 ea1 ea2 ea3 ea4 eb0 eb1 eb2
        exact ⟨a0, a1, a2, a3, a4, b0, b1, b2, by rw [ea0, ea1, ea2, ea3, ea4, eb0, eb1, eb2]⟩
end
end Go.Proofs.YtafoihbkhgnecaaGreat
