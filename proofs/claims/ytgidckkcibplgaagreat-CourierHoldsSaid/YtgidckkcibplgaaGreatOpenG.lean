/- Arguments as the row reads them, opened: slices of bytes and of words. Arguments as the row reads them, opened: slices of anything, structs by value. -/
import Derived.Test.YtgidckkcibplgaaGreatProg
import Derived.Test.YtgidckkcibplgaaGreatSepc
import Derived.ChangeSlices
import Derived.WideShapes
import Derived.Carry
import Derived.OpenShut
import Derived.ProofKit
set_option linter.unusedVariables false
set_option linter.unusedSimpArgs false
namespace Go.Proofs.Num
open Go.RowKit Go.ChangeShapes
theorem wf32 {a : Int} (h : (Lit.int .u32 a).wf = true) : ∃ n : Nat, n < 4294967296 ∧ a = n := by
  have h1 : IntKind.u32.min = 0 := rfl
  have h2 : IntKind.u32.max = 4294967295 := rfl
  simp only [Lit.wf, Bool.and_eq_true, decide_eq_true_eq] at h
  exact ⟨a.toNat, by omega, by omega⟩
theorem wf16 {a : Int} (h : (Lit.int .u16 a).wf = true) : ∃ n : Nat, n < 65536 ∧ a = n := by
  have h1 : IntKind.u16.min = 0 := rfl
  have h2 : IntKind.u16.max = 65535 := rfl
  simp only [Lit.wf, Bool.and_eq_true, decide_eq_true_eq] at h
  exact ⟨a.toNat, by omega, by omega⟩
theorem wf8 {a : Int} (h : (Lit.int .u8 a).wf = true) : ∃ n : Nat, n < 256 ∧ a = n := by
  have h1 : IntKind.u8.min = 0 := rfl
  have h2 : IntKind.u8.max = 255 := rfl
  simp only [Lit.wf, Bool.and_eq_true, decide_eq_true_eq] at h
  exact ⟨a.toNat, by omega, by omega⟩
theorem wf64i {a : Int} (h : (Lit.int .i64 a).wf = true) : -9223372036854775808 ≤ a ∧ a < 9223372036854775808 := by
  have h1 : IntKind.i64.min = -9223372036854775808 := rfl
  have h2 : IntKind.i64.max = 9223372036854775807 := rfl
  simp only [Lit.wf, Bool.and_eq_true, decide_eq_true_eq] at h
  omega
theorem spot_none {w : World} {a : Addr} {v : Value} (h : w.cell? a = some v) : a = ⟨a.block, a.off, none⟩ := by
  unfold World.cell? at h
  split at h
  · split at h
    · cases h
    · rename_i hs
      obtain ⟨b, o, s⟩ := a
      cases s with
      | none => rfl
      | some x => simp at hs
  · cases h
theorem cell_lt {w : World} {a : Addr} {v : Value} (h : w.cell? a = some v) : a.block < w.heap.size := by
  unfold World.cell? at h
  rcases Nat.lt_or_ge a.block w.heap.size with l | l
  · exact l
  · rw [Array.getElem?_eq_none l] at h; cases h
theorem add_plain (b o n : Nat) : (⟨b, o, none⟩ : Addr).add n = ⟨b, o + n, none⟩ := by
  unfold Addr.add
  split
  · rename_i h; subst h; rfl
  · rfl
/-- A slice of integers of one kind, as cells. -/
theorem open_rowC {H : Type} {enc : TypeId × Value → H} {P : Program} {w : World} {base : Nat} {spare : Nat → Bool} {held : Bool} {fu : Nat} {cs : List Value} {x : DataW H × List MemPlace} {t e : TypeId} {k : IntKind} (ht : P.underlying t = some (.slice e)) (he : P.underlying e = some (.int k)) (hc1 : P.cellsOf e = 1)
    (h : DataW.trod enc P w base spare held fu t cs = some x) : ∃ v, cs = [v] ∧ ∃ xs : List Int, Rd w v (xs.map (Value.int k)) ∧ ∀ x ∈ xs, (Lit.int k x).wf = true := by
  rcases DataW.trod_slice ht h with ⟨hv, _⟩ | ⟨a, vl, vc, elems, rest, n, _, hv, _, _, hlc, hcm, hlen, hel, _⟩
  · exact ⟨_, hv, [], Rd.nil _ _ _ (by unfold maxLen; omega), by simp⟩
  · refine ⟨_, hv, ?_⟩
    have each : ∀ j, j < vl → ∃ x : Int, (Lit.int k x).wf = true ∧ w.cell? (a.add j) = some (.int k x) := by
      intro j hj
      have hE := hel j hj
      rw [hc1, Nat.mul_one, List.getElem?_eq_getElem (by omega)] at hE
      obtain ⟨cs, hc, ht⟩ := Option.bind_eq_some_iff.1 hE
      obtain ⟨_, hl, hcell⟩ := World.cells?_some hc
      match cs, hl with
      | [c0], _ =>
        obtain ⟨m, e0, _, w0⟩ := DataW.trod_int he ht
        have := hcell 0 (by decide)
        rw [show (a.add j).add 0 = a.add j by simp [Addr.add]] at this
        simp at e0
        exact ⟨m, w0, by rw [this]; simp [e0]⟩
    rcases Nat.eq_zero_or_pos vl with rfl | hpos
    · exact ⟨[], Rd.nil _ _ _ hcm, by simp⟩
    · obtain ⟨s0, _, q0⟩ := each 0 hpos
      have q1 : w.cell? a = some (.int k s0) := by simpa [Addr.add] using q0
      have hb := cell_lt q1
      have ha := spot_none q1
      obtain ⟨b, o, sp⟩ := a
      simp only at ha hb
      injection ha with _ _ ha
      subst ha
      obtain ⟨f, hf⟩ := Classical.axiomOfChoice (fun j : Fin vl => each j.1 j.2)
      refine ⟨List.ofFn f, ⟨some ⟨b, o, none⟩, vc, by simp, by simpa using ⟨hlc, hcm⟩, fun j hj => ⟨b, o, rfl, hb, ?_⟩⟩, fun s hs => ?_⟩
      · simp at hj
        obtain ⟨_, e0⟩ := hf ⟨j, hj⟩
        rw [add_plain] at e0
        simpa using e0
      · obtain ⟨j, rfl⟩ := List.mem_ofFn.1 hs
        exact (hf j).1
theorem open_row {H : Type} {enc : TypeId × Value → H} {P : Program} {w : World} {base : Nat} {spare : Nat → Bool} {held : Bool} {v : Value} {d : DataW H} {ps : List MemPlace} {t e : TypeId} {k : IntKind} (ht : P.underlying t = some (.slice e)) (he : P.underlying e = some (.int k)) (hc1 : P.cellsOf e = 1)
    {r : Reach} {b0 : Nat} (hval : Value.okWide P w r b0 t v) (h : DataW.Trod enc P w base spare held t v d ps) : ∃ xs : List Int, Rd w v (xs.map (Value.int k)) ∧ ∀ x ∈ xs, (Lit.int k x).wf = true := by
  obtain ⟨va, vl, vc, rfl⟩ := WideShapes.okWide_slice ht hval
  obtain ⟨fu, h⟩ := h
  obtain ⟨v', hv, r⟩ := open_rowC ht he hc1 h
  simp only [Value.cells, List.cons.injEq, and_true] at hv
  rw [← hv] at r
  exact r
theorem nats_of {k : IntKind} {m : Nat} : ∀ {xs : List Int}, (∀ x ∈ xs, ∃ n : Nat, n < m ∧ x = n) → ∃ l : List Nat, xs.map (Value.int k) = l.map (fun n => Value.int k (n : Nat)) ∧ ∀ x ∈ l, x < m
  | [], _ => ⟨[], rfl, by simp⟩
  | x :: xs, h => by
    obtain ⟨n, hn, rfl⟩ := h x (by simp)
    obtain ⟨l, h1, h2⟩ := nats_of (k := k) (xs := xs) (fun y hy => h y (by simp [hy]))
    exact ⟨n :: l, by simp [h1], by simpa [hn] using h2⟩
theorem open_u8s {H : Type} {enc : TypeId × Value → H} {P : Program} {w : World} {base : Nat} {spare : Nat → Bool} {held : Bool} {v : Value} {d : DataW H} {ps : List MemPlace} {t e : TypeId} (ht : P.underlying t = some (.slice e)) (he : P.underlying e = some (.int .u8)) (hc1 : P.cellsOf e = 1)
    {r : Reach} {b0 : Nat} (hval : Value.okWide P w r b0 t v) (h : DataW.Trod enc P w base spare held t v d ps) : ∃ l : List Nat, RdB w v l := by
  obtain ⟨xs, h1, h2⟩ := open_row ht he hc1 hval h
  obtain ⟨l, h3, h4⟩ := nats_of (k := .u8) (fun x hx => wf8 (h2 x hx))
  exact ⟨l, by rw [h3] at h1; exact h1, h4⟩
theorem open_u32s {H : Type} {enc : TypeId × Value → H} {P : Program} {w : World} {base : Nat} {spare : Nat → Bool} {held : Bool} {v : Value} {d : DataW H} {ps : List MemPlace} {t e : TypeId} (ht : P.underlying t = some (.slice e)) (he : P.underlying e = some (.int .u32)) (hc1 : P.cellsOf e = 1)
    {r : Reach} {b0 : Nat} (hval : Value.okWide P w r b0 t v) (h : DataW.Trod enc P w base spare held t v d ps) : ∃ l : List Nat, RdW w v l := by
  obtain ⟨xs, h1, h2⟩ := open_row ht he hc1 hval h
  obtain ⟨l, h3, h4⟩ := nats_of (k := .u32) (fun x hx => wf32 (h2 x hx))
  exact ⟨l, by rw [h3] at h1; exact h1, h4⟩
/-- An argument reads behind the call as it did before. -/
theorem below_trod {H : Type} {enc : TypeId × Value → H} {P : Program} {t : TypeId} (hl : laidOutB P = true) (hr : P.readableRec t = true) (hrow : t < P.types.size) {W W' : World} {v : Value} {d : DataW H} {ps : List MemPlace}
    (h : DataW.Trod enc P W 0 (fun _ => true) true t v d ps) (hb : Below W.heap.size W W') (hlt : ∀ x ∈ ps, x.block < W.heap.size) {sp : Nat → Bool} (hsp : ∀ x ∈ ps, sp x.block = true) :
    DataW.Trod enc P W' 0 sp true t v d ps :=
  WideElems.Trod_stays hl hr hrow h (fun x hx => hb.same (hlt x hx)) hsp
end Go.Proofs.Num
namespace Go.Proofs.Num
open Go.RowKit Go.ChangeShapes
/-- The slice v reads as the list S: each element lies in size cells, of which E speaks. -/
def SliceOf {α : Type} (w : World) (size : Nat) (E : World → List Value → α → Prop) (v : Value) (S : List α) : Prop :=
  ∃ a cap, v = .slice a S.length cap ∧ (S.length ≤ cap ∧ cap ≤ maxLen) ∧ ∀ j, (h : j < S.length) → ∃ b off cs, a = some ⟨b, off, none⟩ ∧ b < w.heap.size ∧ cs.length = size ∧
    (∀ i, (hi : i < cs.length) → w.cell? ⟨b, off + j * size + i, none⟩ = some cs[i]) ∧ E w cs S[j]
theorem SliceOf.below {α : Type} {w w' : World} {size : Nat} {E : World → List Value → α → Prop} {v : Value} {S : List α} (h : SliceOf w size E v S) (hE : ∀ cs s, E w cs s → E w' cs s) (k : Below w.heap.size w w') : SliceOf w' size E v S := by
  obtain ⟨a, cap, h1, h2, h3⟩ := h
  refine ⟨a, cap, h1, h2, fun j hj => ?_⟩
  obtain ⟨b, off, cs, g1, g2, g3, g4, g5⟩ := h3 j hj
  exact ⟨b, off, cs, g1, by have := k.size; omega, g3, fun i hi => by rw [k.cell g2]; exact g4 i hi, hE _ _ g5⟩
theorem SliceOf.nil {α : Type} (w : World) (size : Nat) (E : World → List Value → α → Prop) (a : Option Addr) (cap : Nat) (h : cap ≤ maxLen) : SliceOf w size E (.slice a 0 cap) ([] : List α) :=
  ⟨a, cap, rfl, ⟨Nat.zero_le _, h⟩, fun j hj => absurd hj (by simp)⟩
section
variable {H : Type} {enc : TypeId × Value → H} {P : Program} {w : World} {base : Nat} {spare : Nat → Bool} {held : Bool}
theorem open_sliceC {α : Type} {E : World → List Value → α → Prop} {fu : Nat} {cs : List Value} {x : DataW H × List MemPlace} {t e : TypeId} {size : Nat} (ht : P.underlying t = some (.slice e)) (hc : P.cellsOf e = size) (hpos0 : 0 < size)
    (hE : ∀ n cs x, DataW.trod enc P w base spare held n e cs = some x → cs.length = size → ∃ s, E w cs s)
    (h : DataW.trod enc P w base spare held fu t cs = some x) : ∃ v, cs = [v] ∧ ∃ S : List α, SliceOf w size E v S := by
  rcases DataW.trod_slice ht h with ⟨hv, _⟩ | ⟨a, vl, vc, elems, rest, n, _, hv, _, _, hlc, hcm, hlen, hel, _⟩
  · exact ⟨_, hv, [], SliceOf.nil _ _ _ _ _ (by unfold maxLen; omega)⟩
  · refine ⟨_, hv, ?_⟩
    have each : ∀ j, j < vl → ∃ s : α, ∃ cs : List Value, cs.length = size ∧ (∀ i, (hi : i < cs.length) → w.cell? ((a.add (j * size)).add i) = some cs[i]) ∧ E w cs s := by
      intro j hj
      have hE' := hel j hj
      rw [hc, List.getElem?_eq_getElem (by omega)] at hE'
      obtain ⟨cs, hc2, ht2⟩ := Option.bind_eq_some_iff.1 hE'
      obtain ⟨_, hl, hcell⟩ := World.cells?_some hc2
      obtain ⟨s, hs⟩ := hE _ _ _ ht2 hl
      refine ⟨s, cs, hl, fun i hi => ?_, hs⟩
      have := hcell i (by omega)
      rw [this]
      simp [List.getElem?_eq_getElem hi]
    rcases Nat.eq_zero_or_pos vl with rfl | hpos
    · exact ⟨[], SliceOf.nil _ _ _ _ _ hcm⟩
    · obtain ⟨s0, cs0, l0, q0, _⟩ := each 0 hpos
      have q1 := q0 0 (by omega)
      have e0 : (a.add (0 * size)).add 0 = a := by simp [Addr.add]
      rw [e0] at q1
      have hb := cell_lt q1
      have ha := spot_none q1
      obtain ⟨b, o, sp⟩ := a
      simp only at ha hb
      injection ha with _ _ ha
      subst ha
      obtain ⟨f, hf⟩ := Classical.axiomOfChoice (fun j : Fin vl => each j.1 j.2)
      refine ⟨List.ofFn f, some ⟨b, o, none⟩, vc, by simp, by simpa using ⟨hlc, hcm⟩, fun j hj => ?_⟩
      simp at hj
      obtain ⟨cs, hl, hcell, hs⟩ := hf ⟨j, hj⟩
      refine ⟨b, o, cs, rfl, hb, hl, fun i hi => ?_, by simpa using hs⟩
      have := hcell i hi
      rw [add_plain, add_plain] at this
      exact this
theorem open_slice {α : Type} {E : World → List Value → α → Prop} {v : Value} {d : DataW H} {ps : List MemPlace} {t e : TypeId} {size : Nat} (ht : P.underlying t = some (.slice e)) (hc : P.cellsOf e = size) (hpos0 : 0 < size)
    (hE : ∀ n cs x, DataW.trod enc P w base spare held n e cs = some x → cs.length = size → ∃ s, E w cs s)
    {r : Reach} {b0 : Nat} (hval : Value.okWide P w r b0 t v) (h : DataW.Trod enc P w base spare held t v d ps) : ∃ S : List α, SliceOf w size E v S := by
  obtain ⟨va, vl, vc, rfl⟩ := WideShapes.okWide_slice ht hval
  obtain ⟨fu, h⟩ := h
  obtain ⟨v', hv, r⟩ := open_sliceC ht hc hpos0 hE h
  simp only [Value.cells, List.cons.injEq, and_true] at hv
  rw [← hv] at r
  exact r
/-- A struct that came by value: its cells. -/
theorem open_aggC {v : Value} {d : DataW H} {ps : List MemPlace} {t : TypeId} {fs : Array Field} (ht : P.underlying t = some (.struct fs))
    {r : Reach} {b0 : Nat} (hval : Value.okWide P w r b0 t v) (h : DataW.Trod enc P w base spare held t v d ps) : ∃ cs : Array Value, v = .agg cs ∧ cs.size = P.cellsOf t ∧ ∃ fu x, DataW.trod enc P w base spare held fu t cs.toList = some x := by
  obtain ⟨cs, rfl, hs⟩ := WideShapes.okWide_struct ht hval
  obtain ⟨fu, h⟩ := h
  exact ⟨cs, rfl, hs, fu, _, h⟩
end
end Go.Proofs.Num
