/- An act among the arguments, opened. -/
import Derived.Test.YtimnhheagdhpgaaDoorSclD
import Derived.Test.YtimnhheagdhpgaaDoorOpenG
set_option linter.unusedVariables false
set_option linter.unusedSimpArgs false
namespace Go.Proofs.YtimnhheagdhpgaaDoor
open Go.RowKit Go.Proofs.Num Go.ChangeShapes
open Scr (Str bs)
section
variable {H : Type} {enc : TypeId × Value → H} {w : World} {base : Nat} {spare : Nat → Bool} {held : Bool}
theorem bytes_of {v : Value} {xs : List Int} (h : Rd w v (xs.map (Value.int .u8))) (hw : ∀ x ∈ xs, (Lit.int .u8 x).wf = true) : ∃ b : List UInt8, Rd w v (u8v b) := by
  obtain ⟨l, h3, h4⟩ := nats_of (k := .u8) (fun x hx => wf8 (hw x hx))
  rw [h3] at h
  refine ⟨l.map UInt8.ofNat, ?_⟩
  have e : nb (l.map UInt8.ofNat) = l := by
    unfold nb
    rw [List.map_map]
    conv => rhs; rw [← List.map_id l]
    apply List.map_congr_left
    intro x hx
    have := h4 x hx
    show (UInt8.ofNat x).toNat = x
    rw [UInt8.toNat_ofNat']; omega
  unfold u8v
  rw [e]
  exact h
set_option maxRecDepth 100000 in
set_option maxHeartbeats 2000000 in
theorem open_actC {fu : Nat} {cs : List Value} {x : DataW H × List MemPlace} (h : DataW.trod enc Tryd.prog w base spare held fu 29 cs = some x) (hs : cs.length = 12) :
    ∃ (a : Scr.Act) (dv av cv : Value), cs = (actC a dv av cv).toList ∧ ActV w a dv av cv ∧ ActI a := by
  match cs, hs with
  | [c0, c1, c2, c3, c4, c5, c6, c7, c8, c9, c10, c11], _ =>
    obtain ⟨xs, m, _, _, _, hlen, hf⟩ := DataW.trod_struct Tryd.underlying29 h
    match xs, hlen with
    | [x0, x1, x2, x3, x4, x5], _ =>
      have g0 : DataW.trod enc Tryd.prog w base spare held m 3 (([c0, c1, c2, c3, c4, c5, c6, c7, c8, c9, c10, c11].drop 0).take (Tryd.prog.cellsOf 3)) = some x0 := hf 0 _ rfl
      have g1 : DataW.trod enc Tryd.prog w base spare held m 3 (([c0, c1, c2, c3, c4, c5, c6, c7, c8, c9, c10, c11].drop 1).take (Tryd.prog.cellsOf 3)) = some x1 := hf 1 _ rfl
      have g2 : DataW.trod enc Tryd.prog w base spare held m 9 (([c0, c1, c2, c3, c4, c5, c6, c7, c8, c9, c10, c11].drop 2).take (Tryd.prog.cellsOf 9)) = some x2 := hf 2 _ rfl
      have g3 : DataW.trod enc Tryd.prog w base spare held m 22 (([c0, c1, c2, c3, c4, c5, c6, c7, c8, c9, c10, c11].drop 3).take (Tryd.prog.cellsOf 22)) = some x3 := hf 3 _ rfl
      have g4 : DataW.trod enc Tryd.prog w base spare held m 25 (([c0, c1, c2, c3, c4, c5, c6, c7, c8, c9, c10, c11].drop 4).take (Tryd.prog.cellsOf 25)) = some x4 := hf 4 _ rfl
      have g5 : DataW.trod enc Tryd.prog w base spare held m 27 (([c0, c1, c2, c3, c4, c5, c6, c7, c8, c9, c10, c11].drop 9).take (Tryd.prog.cellsOf 27)) = some x5 := hf 5 _ rfl
      rw [show Tryd.prog.cellsOf 3 = 1 by kernel_rfl] at g0 g1
      rw [show Tryd.prog.cellsOf 9 = 1 by kernel_rfl] at g2
      rw [show Tryd.prog.cellsOf 22 = 1 by kernel_rfl] at g3
      rw [show Tryd.prog.cellsOf 25 = 5 by kernel_rfl] at g4
      rw [show Tryd.prog.cellsOf 27 = 3 by kernel_rfl] at g5
      obtain ⟨ys, m1, _, _, _, hlen1, hf1⟩ := DataW.trod_struct Tryd.underlying25 g4
      obtain ⟨zs, m2, _, _, _, hlen2, hf2⟩ := DataW.trod_struct Tryd.underlying27 g5
      match ys, hlen1, zs, hlen2 with
      | [y0, y1, y2, y3, y4], _, [z0, z1, z2], _ =>
        have k0 : DataW.trod enc Tryd.prog w base spare held m1 3 (((([c0, c1, c2, c3, c4, c5, c6, c7, c8, c9, c10, c11].drop 4).take 5).drop 0).take (Tryd.prog.cellsOf 3)) = some y0 := hf1 0 _ rfl
        have k1 : DataW.trod enc Tryd.prog w base spare held m1 3 (((([c0, c1, c2, c3, c4, c5, c6, c7, c8, c9, c10, c11].drop 4).take 5).drop 1).take (Tryd.prog.cellsOf 3)) = some y1 := hf1 1 _ rfl
        have k2 : DataW.trod enc Tryd.prog w base spare held m1 3 (((([c0, c1, c2, c3, c4, c5, c6, c7, c8, c9, c10, c11].drop 4).take 5).drop 2).take (Tryd.prog.cellsOf 3)) = some y2 := hf1 2 _ rfl
        have k3 : DataW.trod enc Tryd.prog w base spare held m1 23 (((([c0, c1, c2, c3, c4, c5, c6, c7, c8, c9, c10, c11].drop 4).take 5).drop 3).take (Tryd.prog.cellsOf 23)) = some y3 := hf1 3 _ rfl
        have k4 : DataW.trod enc Tryd.prog w base spare held m1 22 (((([c0, c1, c2, c3, c4, c5, c6, c7, c8, c9, c10, c11].drop 4).take 5).drop 4).take (Tryd.prog.cellsOf 22)) = some y4 := hf1 4 _ rfl
        have j0 : DataW.trod enc Tryd.prog w base spare held m2 3 (((([c0, c1, c2, c3, c4, c5, c6, c7, c8, c9, c10, c11].drop 9).take 3).drop 0).take (Tryd.prog.cellsOf 3)) = some z0 := hf2 0 _ rfl
        have j1 : DataW.trod enc Tryd.prog w base spare held m2 3 (((([c0, c1, c2, c3, c4, c5, c6, c7, c8, c9, c10, c11].drop 9).take 3).drop 1).take (Tryd.prog.cellsOf 3)) = some z1 := hf2 1 _ rfl
        have j2 : DataW.trod enc Tryd.prog w base spare held m2 3 (((([c0, c1, c2, c3, c4, c5, c6, c7, c8, c9, c10, c11].drop 9).take 3).drop 2).take (Tryd.prog.cellsOf 3)) = some z2 := hf2 2 _ rfl
        rw [show Tryd.prog.cellsOf 3 = 1 by kernel_rfl] at k0 k1 k2 j0 j1 j2
        rw [show Tryd.prog.cellsOf 23 = 1 by kernel_rfl] at k3
        rw [show Tryd.prog.cellsOf 22 = 1 by kernel_rfl] at k4
        obtain ⟨n0, e0, _, w0⟩ := DataW.trod_int Tryd.underlying3 g0
        obtain ⟨n1, e1, _, w1⟩ := DataW.trod_int Tryd.underlying3 g1
        obtain ⟨s2, e2, _, hs2⟩ := DataW.trod_string Tryd.underlying9 g2
        obtain ⟨v3, e3, ys3, hy3, hz3⟩ := open_rowC Tryd.underlying22 Tryd.underlying5 (by kernel_rfl) g3
        obtain ⟨n4, e4, _, w4⟩ := DataW.trod_int Tryd.underlying3 k0
        obtain ⟨n5, e5, _, w5⟩ := DataW.trod_int Tryd.underlying3 k1
        obtain ⟨n6, e6, _, w6⟩ := DataW.trod_int Tryd.underlying3 k2
        obtain ⟨v7, e7, ys7, hy7, hz7⟩ := open_rowC Tryd.underlying23 Tryd.underlying3 (by kernel_rfl) k3
        obtain ⟨v8, e8, ys8, hy8, hz8⟩ := open_rowC Tryd.underlying22 Tryd.underlying5 (by kernel_rfl) k4
        obtain ⟨n9, e9, _, w9⟩ := DataW.trod_int Tryd.underlying3 j0
        obtain ⟨n10, e10, _, w10⟩ := DataW.trod_int Tryd.underlying3 j1
        obtain ⟨n11, e11, _, w11⟩ := DataW.trod_int Tryd.underlying3 j2
        obtain ⟨b3, hb3⟩ := bytes_of hy3 hz3
        obtain ⟨b8, hb8⟩ := bytes_of hy8 hz8
        simp at e0 e1 e2 e3 e4 e5 e6 e7 e8 e9 e10 e11
        refine ⟨⟨n0, n1, bs s2, b3, n4, n5, n6, ys7, b8, n9, n10, n11⟩, v3, v7, v8, ?_, ⟨hb3, hy7, hb8⟩, ⟨?_, ?_, ?_, ?_⟩⟩
        · rw [e0, e1, e2, e3, e4, e5, e6, e7, e8, e9, e10, e11]
          unfold actC
          simp only [Scr.mk_bs]
        · show i64 n1; have := wf64i w1; unfold i64; omega
        · show i64 n10; have := wf64i w10; unfold i64; omega
        · show i64 n11; have := wf64i w11; unfold i64; omega
        · intro n hn; have := wf64i (hz7 n hn); unfold i64; omega
set_option maxRecDepth 100000 in
theorem open_act {v : Value} {d : DataW H} {ps : List MemPlace} {r : Reach} {b0 : Nat} (hval : Value.okWide Tryd.prog w r b0 29 v) (h : DataW.Trod enc Tryd.prog w base spare held 29 v d ps) :
    ∃ (a : Scr.Act) (dv av cv : Value), v = .agg (actC a dv av cv) ∧ ActV w a dv av cv ∧ ActI a := by
  obtain ⟨cs, rfl, hs, fu, x, h⟩ := open_aggC Tryd.underlying29 hval h
  rw [show Tryd.prog.cellsOf 29 = 12 by kernel_rfl] at hs
  obtain ⟨a, dv, av, cv, e, h1, h2⟩ := open_actC h (by simpa using hs)
  exact ⟨a, dv, av, cv, congrArg Value.agg (Array.ext' e), h1, h2⟩
end
end Go.Proofs.YtimnhheagdhpgaaDoor
