/- The arguments of the statements on the sending end, opened. The contract of spacecraftlaw27.small. -/
import Derived.Test.YtfjadhkhmhnccaaSrcOps
import Derived.Test.YtfjadhkhmhnccaaOpenG
set_option linter.unusedVariables false
set_option linter.unusedSimpArgs false
namespace Fil
/-- A call on the sending end. -/
structure Stp where
  kind : Int
  p : Pdu
  now : Int
end Fil
namespace Go.Proofs.Ytfjadhkhmhnccaa
open Go.RowKit Go.Proofs.Num Go.ChangeShapes
/-- The slices of a unit are readable. -/
structure PduR (w : World) (p : Fil.Pdu) : Prop where
  d : RdB w (.slice p.da p.data.length p.dc) p.data
  g : RdR w (.slice p.ga p.gaps.length p.gc) p.gaps
  n : p.name.size ≤ maxLen
def StpE (w : World) (cs : List Value) (s : Fil.Stp) : Prop := cs = .int .u8 s.kind :: (s.p.cells.toList ++ [.int .i64 s.now]) ∧ PduR w s.p ∧ (Lit.int .u8 s.kind).wf = true ∧ (Lit.int .i64 s.now).wf = true
abbrev StpsAt (w : World) (v : Value) (S : List Fil.Stp) : Prop := SliceOf w 13 StpE v S
theorem PduR.below {w w' : World} {p : Fil.Pdu} (h : PduR w p) (k : Below w.heap.size w w') : PduR w' p := ⟨h.d.below k, h.g.below k, h.n⟩
theorem StpsAt.below {w w' : World} {v : Value} {S : List Fil.Stp} (h : StpsAt w v S) (k : Below w.heap.size w w') : StpsAt w' v S :=
  SliceOf.below h (fun cs s hs => ⟨hs.1, hs.2.1.below k, hs.2.2⟩) k
section
variable {H : Type} {enc : TypeId × Value → H} {w : World} {base : Nat} {spare : Nat → Bool} {held : Bool}
def RngE (w : World) (cs : List Value) (s : Int × Int) : Prop := cs = [.int .i64 s.1, .int .i64 s.2]
set_option maxRecDepth 100000 in
theorem open_rngs {fu : Nat} {cs : List Value} {x : DataW H × List MemPlace} (h : DataW.trod enc Try.prog w base spare held fu 36 cs = some x) : ∃ v, cs = [v] ∧ ∃ l, RdR w v l := by
  obtain ⟨v, e, S, a, cap, h1, h2, h3⟩ := open_sliceC (E := RngE) (size := 2) Try.underlying36 (by kernel_rfl) (by decide) (by
    intro n cs x h hl
    match cs, hl with
    | [u0, u1], _ =>
      obtain ⟨xs, m, _, _, _, hlen, hf⟩ := DataW.trod_struct Try.underlying81 h
      match xs, hlen with
      | [x0, x1], _ =>
        have g0 : DataW.trod enc Try.prog w base spare held m 3 (([u0, u1].drop 0).take (Try.prog.cellsOf 3)) = some x0 := hf 0 _ rfl
        have g1 : DataW.trod enc Try.prog w base spare held m 3 (([u0, u1].drop 1).take (Try.prog.cellsOf 3)) = some x1 := hf 1 _ rfl
        rw [show Try.prog.cellsOf 3 = 1 by kernel_rfl] at g0 g1
        obtain ⟨n0, e0, _, _⟩ := DataW.trod_int Try.underlying3 g0
        obtain ⟨n1, e1, _, _⟩ := DataW.trod_int Try.underlying3 g1
        simp at e0 e1
        exact ⟨(n0, n1), by unfold RngE; rw [e0, e1]⟩) h
  refine ⟨v, e, S, a, cap, h1, h2, fun j hj => ?_⟩
  obtain ⟨b, off, cs, g1, g2, g3, g4, g5⟩ := h3 j hj
  unfold RngE at g5
  subst g5
  exact ⟨b, off, g1, g2, g4 0 (by simp), g4 1 (by simp)⟩
set_option maxRecDepth 100000 in
set_option maxHeartbeats 1000000 in
theorem open_pdu {fu : Nat} {u0 u1 u2 u3 u4 u5 u6 u7 u8 u9 u10 : Value} {x : DataW H × List MemPlace} (h : DataW.trod enc Try.prog w base spare held fu 45 [u0, u1, u2, u3, u4, u5, u6, u7, u8, u9, u10] = some x) :
    ∃ p : Fil.Pdu, [u0, u1, u2, u3, u4, u5, u6, u7, u8, u9, u10] = p.cells.toList ∧ PduR w p := by
  obtain ⟨xs, m, _, _, _, hlen, hf⟩ := DataW.trod_struct Try.underlying45 h
  match xs, hlen with
  | [x0, x1, x2, x3, x4, x5, x6, x7, x8, x9], _ =>
    have g0 : DataW.trod enc Try.prog w base spare held m 3 (([u0, u1, u2, u3, u4, u5, u6, u7, u8, u9, u10].drop 0).take (Try.prog.cellsOf 3)) = some x0 := hf 0 _ rfl
    have g1 : DataW.trod enc Try.prog w base spare held m 23 (([u0, u1, u2, u3, u4, u5, u6, u7, u8, u9, u10].drop 1).take (Try.prog.cellsOf 23)) = some x1 := hf 1 _ rfl
    have g2 : DataW.trod enc Try.prog w base spare held m 3 (([u0, u1, u2, u3, u4, u5, u6, u7, u8, u9, u10].drop 3).take (Try.prog.cellsOf 3)) = some x2 := hf 2 _ rfl
    have g3 : DataW.trod enc Try.prog w base spare held m 9 (([u0, u1, u2, u3, u4, u5, u6, u7, u8, u9, u10].drop 4).take (Try.prog.cellsOf 9)) = some x3 := hf 3 _ rfl
    have g4 : DataW.trod enc Try.prog w base spare held m 3 (([u0, u1, u2, u3, u4, u5, u6, u7, u8, u9, u10].drop 5).take (Try.prog.cellsOf 3)) = some x4 := hf 4 _ rfl
    have g5 : DataW.trod enc Try.prog w base spare held m 3 (([u0, u1, u2, u3, u4, u5, u6, u7, u8, u9, u10].drop 6).take (Try.prog.cellsOf 3)) = some x5 := hf 5 _ rfl
    have g6 : DataW.trod enc Try.prog w base spare held m 24 (([u0, u1, u2, u3, u4, u5, u6, u7, u8, u9, u10].drop 7).take (Try.prog.cellsOf 24)) = some x6 := hf 6 _ rfl
    have g7 : DataW.trod enc Try.prog w base spare held m 43 (([u0, u1, u2, u3, u4, u5, u6, u7, u8, u9, u10].drop 8).take (Try.prog.cellsOf 43)) = some x7 := hf 7 _ rfl
    have g8 : DataW.trod enc Try.prog w base spare held m 33 (([u0, u1, u2, u3, u4, u5, u6, u7, u8, u9, u10].drop 9).take (Try.prog.cellsOf 33)) = some x8 := hf 8 _ rfl
    have g9 : DataW.trod enc Try.prog w base spare held m 36 (([u0, u1, u2, u3, u4, u5, u6, u7, u8, u9, u10].drop 10).take (Try.prog.cellsOf 36)) = some x9 := hf 9 _ rfl
    rw [show Try.prog.cellsOf 3 = 1 by kernel_rfl] at g0 g2 g4 g5
    rw [show Try.prog.cellsOf 23 = 2 by kernel_rfl] at g1
    rw [show Try.prog.cellsOf 9 = 1 by kernel_rfl] at g3
    rw [show Try.prog.cellsOf 24 = 1 by kernel_rfl] at g6
    rw [show Try.prog.cellsOf 43 = 1 by kernel_rfl] at g7
    rw [show Try.prog.cellsOf 33 = 1 by kernel_rfl] at g8
    rw [show Try.prog.cellsOf 36 = 1 by kernel_rfl] at g9
    obtain ⟨n0, e0, _, _⟩ := DataW.trod_int Try.underlying3 g0
    obtain ⟨ys, m1, _, _, _, hlen1, hf1⟩ := DataW.trod_struct Try.underlying23 g1
    match ys, hlen1 with
    | [y0, y1], _ =>
      have k0 : DataW.trod enc Try.prog w base spare held m1 3 ((((([u0, u1, u2, u3, u4, u5, u6, u7, u8, u9, u10].drop 1).take 2)).drop 0).take (Try.prog.cellsOf 3)) = some y0 := hf1 0 _ rfl
      have k1 : DataW.trod enc Try.prog w base spare held m1 3 ((((([u0, u1, u2, u3, u4, u5, u6, u7, u8, u9, u10].drop 1).take 2)).drop 1).take (Try.prog.cellsOf 3)) = some y1 := hf1 1 _ rfl
      rw [show Try.prog.cellsOf 3 = 1 by kernel_rfl] at k0 k1
      obtain ⟨a0, ea0, _, _⟩ := DataW.trod_int Try.underlying3 k0
      obtain ⟨a1, ea1, _, _⟩ := DataW.trod_int Try.underlying3 k1
      obtain ⟨n2, e2, _, _⟩ := DataW.trod_int Try.underlying3 g2
      obtain ⟨s3, e3, _, hs3⟩ := DataW.trod_string Try.underlying9 g3
      obtain ⟨n4, e4, _, _⟩ := DataW.trod_int Try.underlying3 g4
      obtain ⟨n5, e5, _, _⟩ := DataW.trod_int Try.underlying3 g5
      obtain ⟨v6, e6, ys6, hy6, hz6⟩ := open_rowC Try.underlying24 Try.underlying5 (by kernel_rfl) g6
      obtain ⟨n7, e7, _, w7⟩ := DataW.trod_int Try.underlying43 g7
      obtain ⟨n8, e8, _, _⟩ := DataW.trod_int Try.underlying33 g8
      obtain ⟨v9, e9, l9, h9⟩ := open_rngs g9
      obtain ⟨l6, h6, hl6⟩ := nats_of (k := .u8) (fun x hx => wf8 (hz6 x hx))
      rw [h6] at hy6
      obtain ⟨a6, c6, hv6⟩ := hy6.eq
      obtain ⟨a9, c9, hv9⟩ := RdR.eq h9
      simp at e0 ea0 ea1 e2 e3 e4 e5 e6 e7 e8 e9
      obtain ⟨k7, _, rfl⟩ := wf32 w7
      subst hv6
      subst hv9
      refine ⟨{ kind := n0, src := a0, num := a1, cls := n2, name := s3, size := n4, off := n5, da := a6, data := l6, dc := c6, sum := k7, code := n8, ga := a9, gaps := l9, gc := c9 }, ?_, ⟨⟨by simpa [u8s] using hy6, hl6⟩, h9, hs3⟩⟩
      rw [e0, ea0, ea1, e2, e3, e4, e5, e6, e7, e8, e9, List.length_map]
      rfl
set_option maxRecDepth 100000 in
set_option maxHeartbeats 1000000 in
theorem open_stps {fu : Nat} {cs : List Value} {x : DataW H × List MemPlace} (h : DataW.trod enc Try.prog w base spare held fu 27 cs = some x) : ∃ v, cs = [v] ∧ ∃ S, StpsAt w v S := by
  refine open_sliceC (E := StpE) (size := 13) Try.underlying27 (by kernel_rfl) (by decide) ?_ h
  intro n cs x h hl
  match cs, hl with
  | [u0, u1, u2, u3, u4, u5, u6, u7, u8, u9, u10, u11, u12], _ =>
    obtain ⟨xs, m, _, _, _, hlen, hf⟩ := DataW.trod_struct Try.underlying62 h
    match xs, hlen with
    | [x0, x1, x2], _ =>
      have g0 : DataW.trod enc Try.prog w base spare held m 5 (([u0, u1, u2, u3, u4, u5, u6, u7, u8, u9, u10, u11, u12].drop 0).take (Try.prog.cellsOf 5)) = some x0 := hf 0 _ rfl
      have g1 : DataW.trod enc Try.prog w base spare held m 45 (([u0, u1, u2, u3, u4, u5, u6, u7, u8, u9, u10, u11, u12].drop 1).take (Try.prog.cellsOf 45)) = some x1 := hf 1 _ rfl
      have g2 : DataW.trod enc Try.prog w base spare held m 3 (([u0, u1, u2, u3, u4, u5, u6, u7, u8, u9, u10, u11, u12].drop 12).take (Try.prog.cellsOf 3)) = some x2 := hf 2 _ rfl
      rw [show Try.prog.cellsOf 5 = 1 by kernel_rfl] at g0
      rw [show Try.prog.cellsOf 45 = 11 by kernel_rfl] at g1
      rw [show Try.prog.cellsOf 3 = 1 by kernel_rfl] at g2
      obtain ⟨n0, e0, _, w0⟩ := DataW.trod_int Try.underlying5 g0
      obtain ⟨p, e1, hp⟩ := open_pdu g1
      obtain ⟨n2, e2, _, w2⟩ := DataW.trod_int Try.underlying3 g2
      simp at e0 e2
      refine ⟨⟨n0, p, n2⟩, ?_, hp, w0, w2⟩
      rw [← e1, e0, e2]
      rfl
set_option maxRecDepth 100000 in
set_option maxHeartbeats 1000000 in
theorem open_ask {v : Value} {d : DataW H} {ps : List MemPlace} {r : Reach} {b0 : Nat} (hval : Value.okWide Try.prog w r b0 29 v) (h : DataW.Trod enc Try.prog w base spare held 29 v d ps) :
    ∃ (src num cls chunk timeout retries : Int) (name : ByteArray) (vd vl : Value) (data : List Nat) (S : List Fil.Stp), v = .agg #[.int .i64 src, .int .i64 num, .int .i64 cls, .string name, vd, .int .i64 chunk, .int .i64 timeout, .int .i64 retries, vl] ∧ RdB w vd data ∧ StpsAt w vl S ∧ name.size ≤ maxLen := by
  obtain ⟨cs, rfl, hs, fu, x, h⟩ := open_aggC Try.underlying29 hval h
  rw [show Try.prog.cellsOf 29 = 9 by kernel_rfl] at hs
  obtain ⟨l, rfl⟩ : ∃ l : List Value, cs = l.toArray := ⟨cs.toList, by simp⟩
  match l, hs with
  | [u0, u1, u2, u3, u4, u5, u6, u7, u8], _ =>
    obtain ⟨xs, m, _, _, _, hlen, hf⟩ := DataW.trod_struct Try.underlying29 h
    match xs, hlen with
    | [x0, x1, x2, x3, x4, x5], _ =>
      have g0 : DataW.trod enc Try.prog w base spare held m 23 (([u0, u1, u2, u3, u4, u5, u6, u7, u8].drop 0).take (Try.prog.cellsOf 23)) = some x0 := hf 0 _ rfl
      have g1 : DataW.trod enc Try.prog w base spare held m 3 (([u0, u1, u2, u3, u4, u5, u6, u7, u8].drop 2).take (Try.prog.cellsOf 3)) = some x1 := hf 1 _ rfl
      have g2 : DataW.trod enc Try.prog w base spare held m 9 (([u0, u1, u2, u3, u4, u5, u6, u7, u8].drop 3).take (Try.prog.cellsOf 9)) = some x2 := hf 2 _ rfl
      have g3 : DataW.trod enc Try.prog w base spare held m 24 (([u0, u1, u2, u3, u4, u5, u6, u7, u8].drop 4).take (Try.prog.cellsOf 24)) = some x3 := hf 3 _ rfl
      have g4 : DataW.trod enc Try.prog w base spare held m 26 (([u0, u1, u2, u3, u4, u5, u6, u7, u8].drop 5).take (Try.prog.cellsOf 26)) = some x4 := hf 4 _ rfl
      have g5 : DataW.trod enc Try.prog w base spare held m 27 (([u0, u1, u2, u3, u4, u5, u6, u7, u8].drop 8).take (Try.prog.cellsOf 27)) = some x5 := hf 5 _ rfl
      rw [show Try.prog.cellsOf 23 = 2 by kernel_rfl] at g0
      rw [show Try.prog.cellsOf 3 = 1 by kernel_rfl] at g1
      rw [show Try.prog.cellsOf 9 = 1 by kernel_rfl] at g2
      rw [show Try.prog.cellsOf 24 = 1 by kernel_rfl] at g3
      rw [show Try.prog.cellsOf 26 = 3 by kernel_rfl] at g4
      rw [show Try.prog.cellsOf 27 = 1 by kernel_rfl] at g5
      obtain ⟨ys, m1, _, _, _, hlen1, hf1⟩ := DataW.trod_struct Try.underlying23 g0
      obtain ⟨zs, m2, _, _, _, hlen2, hf2⟩ := DataW.trod_struct Try.underlying26 g4
      match ys, hlen1, zs, hlen2 with
      | [y0, y1], _, [z0, z1, z2], _ =>
        have k0 : DataW.trod enc Try.prog w base spare held m1 3 ((((([u0, u1, u2, u3, u4, u5, u6, u7, u8].drop 0).take 2)).drop 0).take (Try.prog.cellsOf 3)) = some y0 := hf1 0 _ rfl
        have k1 : DataW.trod enc Try.prog w base spare held m1 3 ((((([u0, u1, u2, u3, u4, u5, u6, u7, u8].drop 0).take 2)).drop 1).take (Try.prog.cellsOf 3)) = some y1 := hf1 1 _ rfl
        have j0 : DataW.trod enc Try.prog w base spare held m2 3 ((((([u0, u1, u2, u3, u4, u5, u6, u7, u8].drop 5).take 3)).drop 0).take (Try.prog.cellsOf 3)) = some z0 := hf2 0 _ rfl
        have j1 : DataW.trod enc Try.prog w base spare held m2 3 ((((([u0, u1, u2, u3, u4, u5, u6, u7, u8].drop 5).take 3)).drop 1).take (Try.prog.cellsOf 3)) = some z1 := hf2 1 _ rfl
        have j2 : DataW.trod enc Try.prog w base spare held m2 3 ((((([u0, u1, u2, u3, u4, u5, u6, u7, u8].drop 5).take 3)).drop 2).take (Try.prog.cellsOf 3)) = some z2 := hf2 2 _ rfl
        rw [show Try.prog.cellsOf 3 = 1 by kernel_rfl] at k0 k1 j0 j1 j2
        obtain ⟨a0, ea0, _, _⟩ := DataW.trod_int Try.underlying3 k0
        obtain ⟨a1, ea1, _, _⟩ := DataW.trod_int Try.underlying3 k1
        obtain ⟨b0, eb0, _, _⟩ := DataW.trod_int Try.underlying3 j0
        obtain ⟨b1, eb1, _, _⟩ := DataW.trod_int Try.underlying3 j1
        obtain ⟨b2, eb2, _, _⟩ := DataW.trod_int Try.underlying3 j2
        obtain ⟨n1, e1, _, _⟩ := DataW.trod_int Try.underlying3 g1
        obtain ⟨s2, e2, _, hs2⟩ := DataW.trod_string Try.underlying9 g2
        obtain ⟨v3, e3, ys3, hy3, hz3⟩ := open_rowC Try.underlying24 Try.underlying5 (by kernel_rfl) g3
        obtain ⟨v5, e5, S, hS⟩ := open_stps g5
        obtain ⟨l3, h3, hl3⟩ := nats_of (k := .u8) (fun x hx => wf8 (hz3 x hx))
        rw [h3] at hy3
        simp at ea0 ea1 eb0 eb1 eb2 e1 e2 e3 e5
        exact ⟨a0, a1, n1, b0, b1, b2, s2, v3, v5, l3, S, by rw [ea0, ea1, eb0, eb1, eb2, e1, e2, e3, e5], ⟨hy3, hl3⟩, hS, hs2⟩
end
end Go.Proofs.Ytfjadhkhmhnccaa
namespace Fil
def Stp.smallB (s : Stp) : Bool := !(decide (300 < s.p.name.size) || decide (1000 < s.p.data.length) || decide (40 < s.p.gaps.length))
def preB (nm dl n : Nat) : Bool := !(decide (300 < nm) || (decide (3000 < dl) && decide (dl ≤ 65536)) || decide (65546 < dl) || decide (80 < n))
def smallB (nm dl : Nat) (S : List Stp) : Bool := preB nm dl S.length && S.all Stp.smallB
end Fil
namespace Go.Proofs.Ytfjadhkhmhnccaa
open Go.RowKit Go.Proofs.Num Go.ChangeShapes
theorem StpsAt.cells {w : World} {v : Value} {S : List Fil.Stp} (h : StpsAt w v S) : ∃ a cap, v = .slice a S.length cap ∧ ∀ j, (hj : j < S.length) → ∃ b off, a = some ⟨b, off, none⟩ ∧ b < w.heap.size ∧
    (∀ i x, (Value.int .u8 S[j].kind :: (S[j].p.cells.toList ++ [.int .i64 S[j].now]))[i]? = some x → w.cell? ⟨b, off + j * 13 + i, none⟩ = some x) ∧ PduR w S[j].p := by
  obtain ⟨a, cap, h1, h2, h3⟩ := h
  refine ⟨a, cap, h1, fun j hj => ?_⟩
  obtain ⟨b, off, cs, g1, g2, g3, g4, g5, g6, _⟩ := h3 j hj
  refine ⟨b, off, g1, g2, fun i x hx => ?_, g6⟩
  rw [← g5] at hx
  obtain ⟨hi, hx⟩ := List.getElem?_eq_some_iff.1 hx
  rw [g4 i hi, hx]
section
variable (w : World) (src num cls chunk timeout retries : Int) (name : ByteArray) (vd vl : Value) (data : List Nat) (S : List Fil.Stp) (hd : RdB w vd data) (hS : StpsAt w vl S)
include hd hS
set_option maxRecDepth 100000 in
set_option maxHeartbeats 2000000 in
theorem cSmall : Calls Try.prog 13 #[.agg #[.int .i64 src, .int .i64 num, .int .i64 cls, .string name, vd, .int .i64 chunk, .int .i64 timeout, .int .i64 retries, vl]] w fun e w' => e = .returned (.bool (Fil.smallB name.size data.length S)) ∧ Below w.heap.size w w' := by
  obtain ⟨da, dc, hde⟩ := hd.1.eq
  rw [u8s_len] at hde
  subst hde
  have hb := ((Below.refl w.heap.size w).alloc (Nat.le_refl _) (.cells #[.int .i64 src, .int .i64 num, .int .i64 cls, .string name, .slice da data.length dc, .int .i64 chunk, .int .i64 timeout, .int .i64 retries, vl] 29))
  obtain ⟨la, lc, hle, hx⟩ := (hS.below hb).cells
  subst hle
  have HX := hid hx
  have HB := hid hb
  have hdef : Fil.smallB name.size data.length S = (Fil.preB name.size data.length S.length && S.all Fil.Stp.smallB) := rfl
  generalize hnm : name.size = nm at *
  generalize hdl : data.length = dl at *
  clear hx hb hd hS hdl
  have HNM := hid hnm
  clear hnm
  cases hp : Fil.preB nm dl S.length with
  | false =>
    have HR : Hid (Fil.smallB nm dl S = false) := hid (by rw [hdef, hp]; rfl)
    have hc : decide ((nm : Int) > 300) = true ∨ (decide ((nm : Int) > 300) = false ∧ decide ((dl : Int) > 3000) = true ∧ decide ((dl : Int) ≤ 65536) = true) ∨ (decide ((nm : Int) > 300) = false ∧ decide ((dl : Int) > 3000) = true ∧ decide ((dl : Int) ≤ 65536) = false ∧ decide ((dl : Int) > 65546) = true) ∨ (decide ((nm : Int) > 300) = false ∧ decide ((dl : Int) > 3000) = true ∧ decide ((dl : Int) ≤ 65536) = false ∧ decide ((dl : Int) > 65546) = false ∧ decide ((S.length : Int) > 80) = true) ∨ (decide ((nm : Int) > 300) = false ∧ decide ((dl : Int) > 3000) = false ∧ decide ((dl : Int) > 65546) = false ∧ decide ((S.length : Int) > 80) = true) := by
      unfold Fil.preB at hp
      simp only [Bool.not_eq_false', Bool.or_eq_true, Bool.and_eq_true, decide_eq_true_eq, decide_eq_false_iff_not] at hp ⊢
      omega
    clear hp hdef
    rcases hc with d1 | ⟨d1, d2, d3⟩ | ⟨d1, d2, d3, d4⟩ | ⟨d1, d2, d3, d4, d5⟩ | ⟨d1, d2, d4, d5⟩
    all_goals
      rw [← HNM.out] at d1
      go_enter Try.func13, Try.ntmps13
      go_wp2_with fail
      go_ret
      exact ⟨ret_bool (by rw [HR.out]), HB.out⟩
  | true =>
    have HR : Hid (Fil.smallB nm dl S = S.all Fil.Stp.smallB) := hid (by rw [hdef, hp]; rfl)
    have hc : (decide ((nm : Int) > 300) = false ∧ decide ((dl : Int) > 3000) = true ∧ decide ((dl : Int) ≤ 65536) = false ∧ decide ((dl : Int) > 65546) = false ∧ decide ((S.length : Int) > 80) = false) ∨ (decide ((nm : Int) > 300) = false ∧ decide ((dl : Int) > 3000) = false ∧ decide ((dl : Int) > 65546) = false ∧ decide ((S.length : Int) > 80) = false) := by
      unfold Fil.preB at hp
      simp only [Bool.not_eq_true', Bool.or_eq_false_iff, Bool.and_eq_false_iff, decide_eq_true_eq, decide_eq_false_iff_not] at hp ⊢
      omega
    have hn : S.length ≤ 80 := by
      unfold Fil.preB at hp
      simp only [Bool.not_eq_true', Bool.or_eq_false_iff, Bool.and_eq_false_iff, decide_eq_true_eq, decide_eq_false_iff_not] at hp
      omega
    clear hp hdef
    rcases hc with ⟨d1, d2, d3, d4, d5⟩ | ⟨d1, d2, d4, d5⟩
    all_goals
      rw [← HNM.out] at d1
      go_enter Try.func13, Try.ntmps13
      go_wp2_with fail
      go_loop [3] (fun i => ∃ k : Nat, k ≤ S.length ∧ i = .int .i64 k ∧ (S.take k).all Fil.Stp.smallB = true) (fun i => S.length - (intOf i).toNat)
      case atStart => exact ⟨0, by omega, rfl, rfl⟩
      case round =>
        obtain ⟨k, hk, rfl, hall⟩ := hrel
        have HA := hid hall
        clear hall
        by_cases hlt : k < S.length
        · obtain ⟨b, off, rfl, hbb, hcell, -⟩ := HX.out k hlt
          have c5 := hcell 5 _ rfl
          have c8 := hcell 8 _ rfl
          have c11 := hcell 11 _ rfl
          have HT : Hid (S.take (k + 1) = S.take k ++ [S[k]]) := hid (by rw [List.take_add_one, List.getElem?_eq_getElem hlt]; rfl)
          have HM : Hid (S[k] ∈ S) := hid (List.getElem_mem hlt)
          clear hcell
          generalize S[k] = s at *
          obtain ⟨sk, p, sn⟩ := s
          simp only [] at c5 c8 c11
          cases hs : Fil.Stp.smallB ⟨sk, p, sn⟩ with
          | false =>
            have HF : Hid (S.all Fil.Stp.smallB = false) := hid (by rw [List.all_eq_false]; exact ⟨_, HM.out, by rw [hs]; simp⟩)
            have hc : decide ((p.name.size : Int) > 300) = true ∨ (decide ((p.name.size : Int) > 300) = false ∧ decide ((p.data.length : Int) > 1000) = true) ∨ (decide ((p.name.size : Int) > 300) = false ∧ decide ((p.data.length : Int) > 1000) = false ∧ decide ((p.gaps.length : Int) > 40) = true) := by
              unfold Fil.Stp.smallB at hs
              simp only [Bool.not_eq_false', Bool.or_eq_true, Bool.and_eq_true, decide_eq_true_eq, decide_eq_false_iff_not] at hs ⊢
              omega
            clear hs
            rcases hc with q1 | ⟨q1, q2⟩ | ⟨q1, q2, q3⟩
            all_goals
              go_wp2_with fail
              go_ret
              exact ⟨ret_bool (by rw [HR.out, HF.out]), HB.out⟩
          | true =>
            have hc : decide ((p.name.size : Int) > 300) = false ∧ decide ((p.data.length : Int) > 1000) = false ∧ decide ((p.gaps.length : Int) > 40) = false := by
              unfold Fil.Stp.smallB at hs
              simp only [Bool.not_eq_true', Bool.or_eq_false_iff, Bool.and_eq_false_iff, decide_eq_true_eq, decide_eq_false_iff_not] at hs ⊢
              omega
            have HSS := hid hs
            clear hs
            obtain ⟨q1, q2, q3⟩ := hc
            go_wp2_with fail
            go_round
            case rel => exact ⟨k + 1, by omega, by go_num, by rw [HT.out, List.all_append, HA.out]; simp [HSS.out]⟩
            case measure => simp [intOf]; omega
        · obtain rfl : k = S.length := by omega
          have hall := HA.out
          rw [List.take_length] at hall
          have HALL := hid hall
          clear hall
          go_wp2_with fail
          go_ret
          exact ⟨ret_bool (by rw [HR.out, HALL.out]), HB.out⟩
end
end Go.Proofs.Ytfjadhkhmhnccaa
