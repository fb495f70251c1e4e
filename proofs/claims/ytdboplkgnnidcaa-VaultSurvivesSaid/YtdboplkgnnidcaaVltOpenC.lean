/- The arguments of VaultSurvives, opened; the law for every input. -/
import Derived.Test.YtdboplkgnnidcaaVltLawC
import Derived.Test.YtdboplkgnnidcaaOpenG
set_option linter.unusedVariables false
namespace Go.Proofs.Ytdboplkgnnidcaa
open Go.RowKit Go.Proofs.Num Go.ChangeShapes
theorem survives (w : World) (z cut : Int) (v1 v2 vU : Value) (b1 b2 : List Nat) (S : List (Int × Int)) (h1 : RdB w v1 b1) (h2 : RdB w v2 b2) (hU : UpsAt w vU S) :
    Calls Try.prog 10 #[.int .i64 z, .agg #[v1, v2, .int .i64 cut], vU] w fun e w' => e = .returned (.bool true) ∧ Below w.heap.size w w' := by
  by_cases h : z < 8 ∨ 120 < z
  · exact survives_few w z cut v1 v2 vU b1 b2 S h1 h2 h
  · obtain ⟨n, rfl⟩ : ∃ m : Nat, z = m := ⟨z.toNat, by omega⟩
    by_cases hl : 4 * (((n / 2 : Nat) : Int) - 3) < b1.length ∨ 4 * (((n / 2 : Nat) : Int) - 3) < b2.length
    · exact survives_long w n (by omega) (by omega) cut v1 v2 vU b1 b2 S h1 h2 hl
    · exact survives_main w n (by omega) (by omega) cut v1 v2 vU b1 b2 S h1 h2 hU (fun h => hl (Or.inl h)) (fun h => hl (Or.inr h))
set_option maxRecDepth 100000 in
theorem open_inter {H : Type} {enc : TypeId × Value → H} {w : World} {base : Nat} {spare : Nat → Bool} {held : Bool} {v : Value} {d : DataW H} {ps : List MemPlace}
    {r : Reach} {b0 : Nat} (hval : Value.okWide Try.prog w r b0 71 v) (h : DataW.Trod enc Try.prog w base spare held 71 v d ps) :
    ∃ (v1 v2 : Value) (cut : Int) (b1 b2 : List Nat), v = .agg #[v1, v2, .int .i64 cut] ∧ RdB w v1 b1 ∧ RdB w v2 b2 ∧ (Lit.int .i64 cut).wf = true := by
  obtain ⟨cs, rfl, hs, fu, x, h⟩ := open_aggC Try.underlying71 hval h
  rw [show Try.prog.cellsOf 71 = 3 by kernel_rfl] at hs
  obtain ⟨l, rfl⟩ : ∃ l : List Value, cs = l.toArray := ⟨cs.toList, by simp⟩
  match l, hs with
  | [u0, u1, u2], _ =>
    obtain ⟨xs, m, _, _, _, hlen, hf⟩ := DataW.trod_struct Try.underlying71 h
    match xs, hlen with
    | [x0, x1, x2], _ =>
      have g0 : DataW.trod enc Try.prog w base spare held m 23 (([u0, u1, u2].drop 0).take (Try.prog.cellsOf 23)) = some x0 := hf 0 _ rfl
      have g1 : DataW.trod enc Try.prog w base spare held m 23 (([u0, u1, u2].drop 1).take (Try.prog.cellsOf 23)) = some x1 := hf 1 _ rfl
      have g2 : DataW.trod enc Try.prog w base spare held m 3 (([u0, u1, u2].drop 2).take (Try.prog.cellsOf 3)) = some x2 := hf 2 _ rfl
      rw [show Try.prog.cellsOf 23 = 1 by kernel_rfl] at g0 g1
      rw [show Try.prog.cellsOf 3 = 1 by kernel_rfl] at g2
      obtain ⟨v0, e0, ys0, hy0, hz0⟩ := open_rowC Try.underlying23 Try.underlying5 (by kernel_rfl) g0
      obtain ⟨v1, e1, ys1, hy1, hz1⟩ := open_rowC Try.underlying23 Try.underlying5 (by kernel_rfl) g1
      obtain ⟨n2, e2, _, w2⟩ := DataW.trod_int Try.underlying3 g2
      obtain ⟨l0, h0, hl0⟩ := nats_of (k := .u8) (fun x hx => wf8 (hz0 x hx))
      obtain ⟨l1, h1, hl1⟩ := nats_of (k := .u8) (fun x hx => wf8 (hz1 x hx))
      rw [h0] at hy0
      rw [h1] at hy1
      simp at e0 e1 e2
      refine ⟨v0, v1, n2, l0, l1, by rw [e0, e1, e2], ⟨hy0, hl0⟩, ⟨hy1, hl1⟩, w2⟩
def UpsE (w : World) (cs : List Value) (s : Int × Int) : Prop := cs = [.int .i64 s.1, .int .i64 s.2]
set_option maxRecDepth 100000 in
theorem open_ups {H : Type} {enc : TypeId × Value → H} {w : World} {base : Nat} {spare : Nat → Bool} {held : Bool} {v : Value} {d : DataW H} {ps : List MemPlace}
    {r : Reach} {b0 : Nat} (hval : Value.okWide Try.prog w r b0 72 v) (h : DataW.Trod enc Try.prog w base spare held 72 v d ps) : ∃ S, UpsAt w v S := by
  obtain ⟨S, a, cap, h1, h2, h3⟩ := open_slice (E := UpsE) (size := 2) Try.underlying72 (by kernel_rfl) (by decide) (by
    intro n cs x h hl
    match cs, hl with
    | [u0, u1], _ =>
      obtain ⟨xs, m, _, _, _, hlen, hf⟩ := DataW.trod_struct Try.underlying75 h
      match xs, hlen with
      | [x0, x1], _ =>
        have g0 : DataW.trod enc Try.prog w base spare held m 3 (([u0, u1].drop 0).take (Try.prog.cellsOf 3)) = some x0 := hf 0 _ rfl
        have g1 : DataW.trod enc Try.prog w base spare held m 3 (([u0, u1].drop 1).take (Try.prog.cellsOf 3)) = some x1 := hf 1 _ rfl
        rw [show Try.prog.cellsOf 3 = 1 by kernel_rfl] at g0 g1
        obtain ⟨n0, e0, _, _⟩ := DataW.trod_int Try.underlying3 g0
        obtain ⟨n1, e1, _, _⟩ := DataW.trod_int Try.underlying3 g1
        simp at e0 e1
        exact ⟨(n0, n1), by unfold UpsE; rw [e0, e1]⟩) hval h
  refine ⟨S, a, cap, h1, by omega, fun j hj => ?_⟩
  obtain ⟨b, off, cs, g1, g2, g3, g4, g5⟩ := h3 j hj
  unfold UpsE at g5
  subst g5
  exact ⟨b, off, g1, g2, g4 0 (by simp), g4 1 (by simp)⟩
end Go.Proofs.Ytdboplkgnnidcaa
