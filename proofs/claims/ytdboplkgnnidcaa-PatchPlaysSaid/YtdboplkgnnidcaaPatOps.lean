/- The operations of the law PatchPlays: how a slice holds them; whether they are few. -/
import Derived.Test.YtdboplkgnnidcaaPatAlive
import Derived.Test.YtdboplkgnnidcaaOpenS
set_option linter.unusedVariables false
namespace Pat
structure Opn where
  ld : Bool
  pos : Int
  n : Int
  lv : Go.Value
  xs : List Nat
  sum : Nat
  right : Bool
end Pat
namespace Go.Proofs.Ytdboplkgnnidcaa
open Go.RowKit Go.Proofs.Num
def OpCells (w : World) (b o : Nat) (s : Pat.Opn) : Prop := w.cell? ⟨b, o, none⟩ = some (.bool s.ld) ∧ w.cell? ⟨b, o + 1, none⟩ = some (.int .i64 s.pos) ∧ w.cell? ⟨b, o + 2, none⟩ = some (.int .i64 s.n) ∧
  w.cell? ⟨b, o + 3, none⟩ = some s.lv ∧ w.cell? ⟨b, o + 4, none⟩ = some (.int .u16 s.sum) ∧ w.cell? ⟨b, o + 5, none⟩ = some (.bool s.right)
def OpOk (w : World) (s : Pat.Opn) : Prop := RdW w s.lv s.xs ∧ (-9223372036854775808 ≤ s.pos ∧ s.pos < 9223372036854775808) ∧ (-9223372036854775808 ≤ s.n ∧ s.n < 9223372036854775808) ∧ s.sum < 65536
def OpsAt (w : World) (v : Value) (S : List Pat.Opn) : Prop := ∃ a cap, v = .slice a S.length cap ∧ S.length ≤ maxLen ∧ ∀ j, (h : j < S.length) → ∃ b off, a = some ⟨b, off, none⟩ ∧ b < w.heap.size ∧ OpCells w b (off + j * 6) S[j] ∧ OpOk w S[j]
theorem OpCells.below {w w' : World} {b o : Nat} {s : Pat.Opn} (h : OpCells w b o s) (hb : b < w.heap.size) (k : Below w.heap.size w w') : OpCells w' b o s := by
  obtain ⟨h0, h1, h2, h3, h4, h5⟩ := h
  exact ⟨by rw [k.cell hb]; exact h0, by rw [k.cell hb]; exact h1, by rw [k.cell hb]; exact h2, by rw [k.cell hb]; exact h3, by rw [k.cell hb]; exact h4, by rw [k.cell hb]; exact h5⟩
def FewPost (w : World) (S : List Pat.Opn) (e : Ending) (w' : World) : Prop := ∃ b : Bool, e = .returned (.bool b) ∧ (b = true → S.length ≤ 40 ∧ ∀ s ∈ S, s.xs.length ≤ 200) ∧ w = w'
set_option maxRecDepth 100000 in
theorem cFew (w : World) (v : Value) (S : List Pat.Opn) (h : OpsAt w v S) :
    Calls Try.prog 19 #[v] w (FewPost w S) := by
  obtain ⟨a, cap, rfl, hm, hx⟩ := h
  have HX := hid hx
  unfold maxLen at hm
  clear hx
  go_enter Try.func19, Try.ntmps19
  go_wp2_with fail
  go_loop [3] (fun i => ∃ k : Nat, k ≤ S.length ∧ i = .int .i64 k ∧ ∀ j, (h : j < S.length) → j < k → S[j].xs.length ≤ 200) (fun i => S.length - (intOf i).toNat)
  case atStart => exact ⟨0, by omega, rfl, fun j _ h => by omega⟩
  case round =>
    obtain ⟨k, hk, rfl, hall⟩ := hrel
    have HALL := hid hall
    clear hall
    by_cases hlt : k < S.length
    · obtain ⟨b, off, rfl, hb, ⟨c0, c1, c2, c3, c4, c5⟩, ⟨hR, _⟩⟩ := HX.out k hlt
      obtain ⟨a2, cap2, e2, hj⟩ := hR.open
      clear hj
      rw [e2] at c3
      clear e2 hR c0 c1 c2 c4 c5
      have HE : Hid (S[k].xs.length = S[k].xs.length) := rfl
      by_cases h2 : 200 < S[k].xs.length
      · have d2 : decide ((200 : Int) < S[k].xs.length) = true := by simp; omega
        generalize S[k].xs.length = m at *
        go_wp2_with fail
        go_ret
        exact ⟨false, rfl, by simp, rfl⟩
      · have d2 : decide ((200 : Int) < S[k].xs.length) = false := by simp; omega
        have HN : Hid (∀ j, (h : j < S.length) → j < k + 1 → S[j].xs.length ≤ 200) := by
          intro j hj hk1
          rcases Nat.lt_or_ge j k with h | h
          · exact HALL.out j hj h
          · have : j = k := by omega
            subst this; omega
        generalize S[k].xs.length = m at *
        go_wp2_with fail
        go_round
        case rel => exact ⟨k + 1, by omega, by go_num, HN.out⟩
        case measure => simp [intOf]; omega
    · go_wp2_with fail
      go_ret
      refine ⟨_, rfl, fun h => ⟨by simp at h; omega, fun s hs => ?_⟩, rfl⟩
      obtain ⟨j, hj, rfl⟩ := List.getElem_of_mem hs
      exact HALL.out j hj (by omega)
theorem open_op {H : Type} {enc : TypeId × Value → H} {w : World} {base : Nat} {spare : Nat → Bool} {held : Bool} {n : Nat} {cs : List Value} {x : DataW H × List MemPlace}
    (h : DataW.trod enc Try.prog w base spare held n 38 cs = some x) (hl : cs.length = 6) :
    ∃ s : Pat.Opn, OpOk w s ∧ cs = [.bool s.ld, .int .i64 s.pos, .int .i64 s.n, s.lv, .int .u16 s.sum, .bool s.right] := by
  match cs, hl with
  | [v0, v1, v2, v3, v4, v5], _ =>
    obtain ⟨xs, m, _, _, _, hlen, hf⟩ := DataW.trod_struct Try.underlying38 h
    match xs, hlen with
    | [x0, x1, x2, x3, x4, x5], _ =>
      have g0 : DataW.trod enc Try.prog w base spare held m 4 (([v0, v1, v2, v3, v4, v5].drop 0).take (Try.prog.cellsOf 4)) = some x0 := hf 0 _ rfl
      have g1 : DataW.trod enc Try.prog w base spare held m 3 (([v0, v1, v2, v3, v4, v5].drop 1).take (Try.prog.cellsOf 3)) = some x1 := hf 1 _ rfl
      have g2 : DataW.trod enc Try.prog w base spare held m 3 (([v0, v1, v2, v3, v4, v5].drop 2).take (Try.prog.cellsOf 3)) = some x2 := hf 2 _ rfl
      have g3 : DataW.trod enc Try.prog w base spare held m 22 (([v0, v1, v2, v3, v4, v5].drop 3).take (Try.prog.cellsOf 22)) = some x3 := hf 3 _ rfl
      have g4 : DataW.trod enc Try.prog w base spare held m 30 (([v0, v1, v2, v3, v4, v5].drop 4).take (Try.prog.cellsOf 30)) = some x4 := hf 4 _ rfl
      have g5 : DataW.trod enc Try.prog w base spare held m 4 (([v0, v1, v2, v3, v4, v5].drop 5).take (Try.prog.cellsOf 4)) = some x5 := hf 5 _ rfl
      rw [show Try.prog.cellsOf 4 = 1 by kernel_rfl] at g0 g5
      rw [show Try.prog.cellsOf 3 = 1 by kernel_rfl] at g1 g2
      rw [show Try.prog.cellsOf 22 = 1 by kernel_rfl] at g3
      rw [show Try.prog.cellsOf 30 = 1 by kernel_rfl] at g4
      obtain ⟨b0, e0, _⟩ := DataW.trod_bool Try.underlying4 g0
      obtain ⟨n1, e1, _, w1⟩ := DataW.trod_int Try.underlying3 g1
      obtain ⟨n2, e2, _, w2⟩ := DataW.trod_int Try.underlying3 g2
      obtain ⟨lv, e3, ys, hy1, hy2⟩ := open_rowC Try.underlying22 Try.underlying48 (by kernel_rfl) g3
      obtain ⟨n4, e4, _, w4⟩ := DataW.trod_int Try.underlying30 g4
      obtain ⟨b5, e5, _⟩ := DataW.trod_bool Try.underlying4 g5
      obtain ⟨m4, h4, rfl⟩ := wf16 w4
      obtain ⟨l, h3, hl3⟩ := nats_of (k := .u32) (fun x hx => wf32 (hy2 x hx))
      rw [h3] at hy1
      simp at e0 e1 e2 e3 e4 e5
      refine ⟨⟨b0, n1, n2, lv, l, m4, b5⟩, ⟨⟨hy1, hl3⟩, wf64i w1, wf64i w2, h4⟩, ?_⟩
      rw [e0, e1, e2, e3, e4, e5]
set_option maxRecDepth 100000 in
theorem open_ops {H : Type} {enc : TypeId × Value → H} {w : World} {base : Nat} {spare : Nat → Bool} {held : Bool} {v : Value} {d : DataW H} {ps : List MemPlace}
    {r : Reach} {b0 : Nat} (hval : Value.okWide Try.prog w r b0 33 v) (h : DataW.Trod enc Try.prog w base spare held 33 v d ps) : ∃ S, OpsAt w v S := by
  obtain ⟨va, vl, vc, rfl⟩ := WideShapes.okWide_slice Try.underlying33 hval
  obtain ⟨fu, h⟩ := h
  rcases DataW.trod_slice Try.underlying33 h with ⟨hv, _⟩ | ⟨a, len, cap, elems, rest, n, _, hv, _, _, hlc, hcm, hlen, hel, _⟩
  · simp only [Value.cells, List.cons.injEq, and_true] at hv
    exact ⟨[], none, 0, hv, by simp, fun j hj => absurd hj (by simp)⟩
  · simp only [Value.cells, List.cons.injEq, and_true, Value.slice.injEq] at hv
    obtain ⟨rfl, rfl, rfl⟩ := hv
    have c6 : Try.prog.cellsOf 38 = 6 := by kernel_rfl
    have each : ∀ j, j < vl → ∃ s : Pat.Opn, OpOk w s ∧ w.cell? (a.add (j * 6)) = some (.bool s.ld) ∧ w.cell? ((a.add (j * 6)).add 1) = some (.int .i64 s.pos) ∧ w.cell? ((a.add (j * 6)).add 2) = some (.int .i64 s.n) ∧
        w.cell? ((a.add (j * 6)).add 3) = some s.lv ∧ w.cell? ((a.add (j * 6)).add 4) = some (.int .u16 s.sum) ∧ w.cell? ((a.add (j * 6)).add 5) = some (.bool s.right) := by
      intro j hj
      have hE := hel j hj
      rw [c6, List.getElem?_eq_getElem (by omega)] at hE
      obtain ⟨cs, hc, ht⟩ := Option.bind_eq_some_iff.1 hE
      obtain ⟨_, hl, hcell⟩ := World.cells?_some hc
      obtain ⟨s, h0, rfl⟩ := open_op ht hl
      exact ⟨s, h0, by simpa [Addr.add] using hcell 0 (by decide), hcell 1 (by decide), hcell 2 (by decide), hcell 3 (by decide), hcell 4 (by decide), hcell 5 (by decide)⟩
    rcases Nat.eq_zero_or_pos vl with rfl | hpos
    · exact ⟨[], some a, vc, rfl, by simp, fun j hj => absurd hj (by simp)⟩
    · obtain ⟨s0, _, q0, _⟩ := each 0 hpos
      have q1 : w.cell? a = some (.bool s0.ld) := by simpa [Addr.add] using q0
      have hb := cell_lt q1
      have ha := spot_none q1
      obtain ⟨b, o, sp⟩ := a
      simp only at ha hb
      injection ha with _ _ ha
      subst ha
      obtain ⟨f, hf⟩ := Classical.axiomOfChoice (fun j : Fin vl => each j.1 j.2)
      refine ⟨List.ofFn f, some ⟨b, o, none⟩, vc, by simp, by simpa using Nat.le_trans hlc hcm, fun j hj => ⟨b, o, rfl, hb, ?_⟩⟩
      rw [List.length_ofFn] at hj
      obtain ⟨hok, e0, e1, e2, e3, e4, e5⟩ := hf ⟨j, hj⟩
      rw [add_plain] at e0 e1 e2 e3 e4 e5
      rw [add_plain] at e1 e2 e3 e4 e5
      rw [List.getElem_ofFn]
      exact ⟨⟨e0, e1, e2, e3, e4, e5⟩, hok⟩
end Go.Proofs.Ytdboplkgnnidcaa
