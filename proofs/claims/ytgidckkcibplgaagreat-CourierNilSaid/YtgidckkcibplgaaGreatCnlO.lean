/- A unit handed by value, opened: what its cells are, without what lies behind its slices. -/
import Derived.Test.YtgidckkcibplgaaGreatOpenG
import Derived.Test.YtgidckkcibplgaaGreatProg
import Derived.Test.YtgidckkcibplgaaGreatEvA
set_option linter.unusedVariables false
set_option linter.unusedSimpArgs false
namespace Go.Proofs.YtgidckkcibplgaaGreat
open Go.Proofs.Num Go.ChangeShapes Go.WideShapes Go.ChangeAt Go.RowKit
section
variable {H : Type} {enc : TypeId × Value → H} {w : World} {base : Nat} {spare : Nat → Bool} {held : Bool}
theorem sliceForm {P : Program} {t e : TypeId} {fuel : Nat} {cs : List Value} {x : DataW H × List MemPlace} (ht : P.underlying t = some (.slice e)) (h : DataW.trod enc P w base spare held fuel t cs = some x) : ∃ a l c, cs = [.slice a l c] ∧ l ≤ maxLen := by
  rcases DataW.trod_slice ht h with ⟨h1, _⟩ | ⟨a, l, c, _, _, _, _, h1, _, _, h2, h3, _⟩
  · exact ⟨none, 0, 0, h1, Nat.zero_le _⟩
  · exact ⟨some a, l, c, h1, Nat.le_trans h2 h3⟩
set_option maxRecDepth 100000 in
set_option maxHeartbeats 1000000 in
theorem open_pdu {v : Value} {d : DataW H} {ps : List MemPlace} {r : Reach} {b0 : Nat} (hval : Value.okWide Tryz.prog w r b0 63 v) (h : DataW.Trod enc Tryz.prog w base spare held 63 v d ps) :
    ∃ (kind src num cls : Int) (name : ByteArray) (size off : Int) (da : Option Addr) (dl dc : Nat) (sum code : Int) (ga : Option Addr) (gl gc : Nat),
      v = .agg #[.int .i64 kind, .int .i64 src, .int .i64 num, .int .i64 cls, .string name, .int .i64 size, .int .i64 off, .slice da dl dc, .int .u32 sum, .int .i64 code, .slice ga gl gc] ∧ dl ≤ maxLen := by
  obtain ⟨cs, rfl, hs, fu, x, h⟩ := open_aggC Tryz.underlying63 hval h
  rw [show Tryz.prog.cellsOf 63 = 11 by kernel_rfl] at hs
  obtain ⟨l, rfl⟩ : ∃ l : List Value, cs = l.toArray := ⟨cs.toList, by simp⟩
  match l, hs with
  | [u0, u1, u2, u3, u4, u5, u6, u7, u8, u9, u10], _ =>
    obtain ⟨xs, m, _, _, _, hlen, hf⟩ := DataW.trod_struct Tryz.underlying63 h
    match xs, hlen with
    | [x0, x1, x2, x3, x4, x5, x6, x7, x8, x9], _ =>
      have g0 : DataW.trod enc Tryz.prog w base spare held m 3 (([u0, u1, u2, u3, u4, u5, u6, u7, u8, u9, u10].drop 0).take (Tryz.prog.cellsOf 3)) = some x0 := hf 0 _ rfl
      have g1 : DataW.trod enc Tryz.prog w base spare held m 38 (([u0, u1, u2, u3, u4, u5, u6, u7, u8, u9, u10].drop 1).take (Tryz.prog.cellsOf 38)) = some x1 := hf 1 _ rfl
      have g2 : DataW.trod enc Tryz.prog w base spare held m 3 (([u0, u1, u2, u3, u4, u5, u6, u7, u8, u9, u10].drop 3).take (Tryz.prog.cellsOf 3)) = some x2 := hf 2 _ rfl
      have g3 : DataW.trod enc Tryz.prog w base spare held m 9 (([u0, u1, u2, u3, u4, u5, u6, u7, u8, u9, u10].drop 4).take (Tryz.prog.cellsOf 9)) = some x3 := hf 3 _ rfl
      have g4 : DataW.trod enc Tryz.prog w base spare held m 3 (([u0, u1, u2, u3, u4, u5, u6, u7, u8, u9, u10].drop 5).take (Tryz.prog.cellsOf 3)) = some x4 := hf 4 _ rfl
      have g5 : DataW.trod enc Tryz.prog w base spare held m 3 (([u0, u1, u2, u3, u4, u5, u6, u7, u8, u9, u10].drop 6).take (Tryz.prog.cellsOf 3)) = some x5 := hf 5 _ rfl
      have g6 : DataW.trod enc Tryz.prog w base spare held m 49 (([u0, u1, u2, u3, u4, u5, u6, u7, u8, u9, u10].drop 7).take (Tryz.prog.cellsOf 49)) = some x6 := hf 6 _ rfl
      have g7 : DataW.trod enc Tryz.prog w base spare held m 60 (([u0, u1, u2, u3, u4, u5, u6, u7, u8, u9, u10].drop 8).take (Tryz.prog.cellsOf 60)) = some x7 := hf 7 _ rfl
      have g8 : DataW.trod enc Tryz.prog w base spare held m 27 (([u0, u1, u2, u3, u4, u5, u6, u7, u8, u9, u10].drop 9).take (Tryz.prog.cellsOf 27)) = some x8 := hf 8 _ rfl
      have g9 : DataW.trod enc Tryz.prog w base spare held m 61 (([u0, u1, u2, u3, u4, u5, u6, u7, u8, u9, u10].drop 10).take (Tryz.prog.cellsOf 61)) = some x9 := hf 9 _ rfl
      rw [show Tryz.prog.cellsOf 3 = 1 by kernel_rfl] at g0 g2 g4 g5
      rw [show Tryz.prog.cellsOf 38 = 2 by kernel_rfl] at g1
      rw [show Tryz.prog.cellsOf 9 = 1 by kernel_rfl] at g3
      rw [show Tryz.prog.cellsOf 49 = 1 by kernel_rfl] at g6
      rw [show Tryz.prog.cellsOf 60 = 1 by kernel_rfl] at g7
      rw [show Tryz.prog.cellsOf 27 = 1 by kernel_rfl] at g8
      rw [show Tryz.prog.cellsOf 61 = 1 by kernel_rfl] at g9
      obtain ⟨zs, m2, _, _, _, hlen2, hf2⟩ := DataW.trod_struct Tryz.underlying38 g1
      match zs, hlen2 with
      | [z0, z1], _ =>
        have j0 : DataW.trod enc Tryz.prog w base spare held m2 3 ((((([u0, u1, u2, u3, u4, u5, u6, u7, u8, u9, u10].drop 1).take 2)).drop 0).take (Tryz.prog.cellsOf 3)) = some z0 := hf2 0 _ rfl
        have j1 : DataW.trod enc Tryz.prog w base spare held m2 3 ((((([u0, u1, u2, u3, u4, u5, u6, u7, u8, u9, u10].drop 1).take 2)).drop 1).take (Tryz.prog.cellsOf 3)) = some z1 := hf2 1 _ rfl
        rw [show Tryz.prog.cellsOf 3 = 1 by kernel_rfl] at j0 j1
        obtain ⟨a0, e0, _, _⟩ := DataW.trod_int Tryz.underlying3 g0
        obtain ⟨b0, f0, _, _⟩ := DataW.trod_int Tryz.underlying3 j0
        obtain ⟨b1, f1, _, _⟩ := DataW.trod_int Tryz.underlying3 j1
        obtain ⟨a2, e2, _, _⟩ := DataW.trod_int Tryz.underlying3 g2
        obtain ⟨s3, e3, _, _⟩ := DataW.trod_string Tryz.underlying9 g3
        obtain ⟨a4, e4, _, _⟩ := DataW.trod_int Tryz.underlying3 g4
        obtain ⟨a5, e5, _, _⟩ := DataW.trod_int Tryz.underlying3 g5
        obtain ⟨da, dl, dc, e6, h6⟩ := sliceForm Tryz.underlying49 g6
        obtain ⟨a7, e7, _, _⟩ := DataW.trod_int Tryz.underlying60 g7
        obtain ⟨a8, e8, _, _⟩ := DataW.trod_int Tryz.underlying27 g8
        obtain ⟨ga, gl, gc, e9, h9⟩ := sliceForm Tryz.underlying61 g9
        simp at e0 f0 f1 e2 e3 e4 e5 e6 e7 e8 e9
        refine ⟨a0, b0, b1, a2, s3, a4, a5, da, dl, dc, a7, a8, ga, gl, gc, by rw [e0, f0, f1, e2, e3, e4, e5, e6, e7, e8, e9], h6⟩
end
end Go.Proofs.YtgidckkcibplgaaGreat
