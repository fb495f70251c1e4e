/- Arguments as the row reads them, opened: slices of bytes and of words. -/
import Derived.Test.YtfjadhkhmhnccaaProg
import Derived.Test.YtfjadhkhmhnccaaSepb
import Derived.ChangeSlices
import Derived.WideShapes
import Derived.Carry
import Derived.OpenShut
import Derived.ProofKit
set_option linter.unusedVariables false
namespace Go.Proofs.Num
open Go.RowKit Go.ChangeShapes
theorem wf32 {a : Int} (h : (Lit.int .u32 a).wf = true) : ∃ n : Nat, n < 4294967296 ∧ a = n := by
  have h1 : IntKind.u32.min = 0 := rfl
  have h2 : IntKind.u32.max = 4294967295 := rfl
  simp only [Lit.wf, Bool.and_eq_true, decide_eq_true_eq] at h
  exact ⟨a.toNat, by omega, by omega⟩
theorem wf16 {a : Int} (h : (Lit.int .u16 a).wf = true) : ∃ n : Nat, n < 65536 ∧ a = n := by
  have h1 : IntKind.u16.min = 0 := rfl
  have h2 : IntKind.u16.max = 65535 := rfl
  simp only [Lit.wf, Bool.and_eq_true, decide_eq_true_eq] at h
  exact ⟨a.toNat, by omega, by omega⟩
theorem wf8 {a : Int} (h : (Lit.int .u8 a).wf = true) : ∃ n : Nat, n < 256 ∧ a = n := by
  have h1 : IntKind.u8.min = 0 := rfl
  have h2 : IntKind.u8.max = 255 := rfl
  simp only [Lit.wf, Bool.and_eq_true, decide_eq_true_eq] at h
  exact ⟨a.toNat, by omega, by omega⟩
theorem wf64i {a : Int} (h : (Lit.int .i64 a).wf = true) : -9223372036854775808 ≤ a ∧ a < 9223372036854775808 := by
  have h1 : IntKind.i64.min = -9223372036854775808 := rfl
  have h2 : IntKind.i64.max = 9223372036854775807 := rfl
  simp only [Lit.wf, Bool.and_eq_true, decide_eq_true_eq] at h
  omega
theorem spot_none {w : World} {a : Addr} {v : Value} (h : w.cell? a = some v) : a = ⟨a.block, a.off, none⟩ := by
  unfold World.cell? at h
  split at h
  · split at h
    · cases h
    · rename_i hs
      obtain ⟨b, o, s⟩ := a
      cases s with
      | none => rfl
      | some x => simp at hs
  · cases h
theorem cell_lt {w : World} {a : Addr} {v : Value} (h : w.cell? a = some v) : a.block < w.heap.size := by
  unfold World.cell? at h
  rcases Nat.lt_or_ge a.block w.heap.size with l | l
  · exact l
  · rw [Array.getElem?_eq_none l] at h; cases h
theorem add_plain (b o n : Nat) : (⟨b, o, none⟩ : Addr).add n = ⟨b, o + n, none⟩ := by
  unfold Addr.add
  split
  · rename_i h; subst h; rfl
  · rfl
/-- A slice of integers of one kind, as cells. -/
theorem open_rowC {H : Type} {enc : TypeId × Value → H} {P : Program} {w : World} {base : Nat} {spare : Nat → Bool} {held : Bool} {fu : Nat} {cs : List Value} {x : DataW H × List MemPlace} {t e : TypeId} {k : IntKind} (ht : P.underlying t = some (.slice e)) (he : P.underlying e = some (.int k)) (hc1 : P.cellsOf e = 1)
    (h : DataW.trod enc P w base spare held fu t cs = some x) : ∃ v, cs = [v] ∧ ∃ xs : List Int, Rd w v (xs.map (Value.int k)) ∧ ∀ x ∈ xs, (Lit.int k x).wf = true := by
  rcases DataW.trod_slice ht h with ⟨hv, _⟩ | ⟨a, vl, vc, elems, rest, n, _, hv, _, _, hlc, hcm, hlen, hel, _⟩
  · exact ⟨_, hv, [], Rd.nil _ _ _ (by unfold maxLen; omega), by simp⟩
  · refine ⟨_, hv, ?_⟩
    have each : ∀ j, j < vl → ∃ x : Int, (Lit.int k x).wf = true ∧ w.cell? (a.add j) = some (.int k x) := by
      intro j hj
      have hE := hel j hj
      rw [hc1, Nat.mul_one, List.getElem?_eq_getElem (by omega)] at hE
      obtain ⟨cs, hc, ht⟩ := Option.bind_eq_some_iff.1 hE
      obtain ⟨_, hl, hcell⟩ := World.cells?_some hc
      match cs, hl with
      | [c0], _ =>
        obtain ⟨m, e0, _, w0⟩ := DataW.trod_int he ht
        have := hcell 0 (by decide)
        rw [show (a.add j).add 0 = a.add j by simp [Addr.add]] at this
        simp at e0
        exact ⟨m, w0, by rw [this]; simp [e0]⟩
    rcases Nat.eq_zero_or_pos vl with rfl | hpos
    · exact ⟨[], Rd.nil _ _ _ hcm, by simp⟩
    · obtain ⟨s0, _, q0⟩ := each 0 hpos
      have q1 : w.cell? a = some (.int k s0) := by simpa [Addr.add] using q0
      have hb := cell_lt q1
      have ha := spot_none q1
      obtain ⟨b, o, sp⟩ := a
      simp only at ha hb
      injection ha with _ _ ha
      subst ha
      obtain ⟨f, hf⟩ := Classical.axiomOfChoice (fun j : Fin vl => each j.1 j.2)
      refine ⟨List.ofFn f, ⟨some ⟨b, o, none⟩, vc, by simp, by simpa using ⟨hlc, hcm⟩, fun j hj => ⟨b, o, rfl, hb, ?_⟩⟩, fun s hs => ?_⟩
      · simp at hj
        obtain ⟨_, e0⟩ := hf ⟨j, hj⟩
        rw [add_plain] at e0
        simpa using e0
      · obtain ⟨j, rfl⟩ := List.mem_ofFn.1 hs
        exact (hf j).1
theorem open_row {H : Type} {enc : TypeId × Value → H} {P : Program} {w : World} {base : Nat} {spare : Nat → Bool} {held : Bool} {v : Value} {d : DataW H} {ps : List MemPlace} {t e : TypeId} {k : IntKind} (ht : P.underlying t = some (.slice e)) (he : P.underlying e = some (.int k)) (hc1 : P.cellsOf e = 1)
    {r : Reach} {b0 : Nat} (hval : Value.okWide P w r b0 t v) (h : DataW.Trod enc P w base spare held t v d ps) : ∃ xs : List Int, Rd w v (xs.map (Value.int k)) ∧ ∀ x ∈ xs, (Lit.int k x).wf = true := by
  obtain ⟨va, vl, vc, rfl⟩ := WideShapes.okWide_slice ht hval
  obtain ⟨fu, h⟩ := h
  obtain ⟨v', hv, r⟩ := open_rowC ht he hc1 h
  simp only [Value.cells, List.cons.injEq, and_true] at hv
  rw [← hv] at r
  exact r
theorem nats_of {k : IntKind} {m : Nat} : ∀ {xs : List Int}, (∀ x ∈ xs, ∃ n : Nat, n < m ∧ x = n) → ∃ l : List Nat, xs.map (Value.int k) = l.map (fun n => Value.int k (n : Nat)) ∧ ∀ x ∈ l, x < m
  | [], _ => ⟨[], rfl, by simp⟩
  | x :: xs, h => by
    obtain ⟨n, hn, rfl⟩ := h x (by simp)
    obtain ⟨l, h1, h2⟩ := nats_of (k := k) (xs := xs) (fun y hy => h y (by simp [hy]))
    exact ⟨n :: l, by simp [h1], by simpa [hn] using h2⟩
theorem open_u8s {H : Type} {enc : TypeId × Value → H} {P : Program} {w : World} {base : Nat} {spare : Nat → Bool} {held : Bool} {v : Value} {d : DataW H} {ps : List MemPlace} {t e : TypeId} (ht : P.underlying t = some (.slice e)) (he : P.underlying e = some (.int .u8)) (hc1 : P.cellsOf e = 1)
    {r : Reach} {b0 : Nat} (hval : Value.okWide P w r b0 t v) (h : DataW.Trod enc P w base spare held t v d ps) : ∃ l : List Nat, RdB w v l := by
  obtain ⟨xs, h1, h2⟩ := open_row ht he hc1 hval h
  obtain ⟨l, h3, h4⟩ := nats_of (k := .u8) (fun x hx => wf8 (h2 x hx))
  exact ⟨l, by rw [h3] at h1; exact h1, h4⟩
theorem open_u32s {H : Type} {enc : TypeId × Value → H} {P : Program} {w : World} {base : Nat} {spare : Nat → Bool} {held : Bool} {v : Value} {d : DataW H} {ps : List MemPlace} {t e : TypeId} (ht : P.underlying t = some (.slice e)) (he : P.underlying e = some (.int .u32)) (hc1 : P.cellsOf e = 1)
    {r : Reach} {b0 : Nat} (hval : Value.okWide P w r b0 t v) (h : DataW.Trod enc P w base spare held t v d ps) : ∃ l : List Nat, RdW w v l := by
  obtain ⟨xs, h1, h2⟩ := open_row ht he hc1 hval h
  obtain ⟨l, h3, h4⟩ := nats_of (k := .u32) (fun x hx => wf32 (h2 x hx))
  exact ⟨l, by rw [h3] at h1; exact h1, h4⟩
/-- An argument reads behind the call as it did before. -/
theorem below_trod {H : Type} {enc : TypeId × Value → H} {P : Program} {t : TypeId} (hl : laidOutB P = true) (hr : P.readableRec t = true) (hrow : t < P.types.size) {W W' : World} {v : Value} {d : DataW H} {ps : List MemPlace}
    (h : DataW.Trod enc P W 0 (fun _ => true) true t v d ps) (hb : Below W.heap.size W W') (hlt : ∀ x ∈ ps, x.block < W.heap.size) {sp : Nat → Bool} (hsp : ∀ x ∈ ps, sp x.block = true) :
    DataW.Trod enc P W' 0 sp true t v d ps :=
  WideElems.Trod_stays hl hr hrow h (fun x hx => hb.same (hlt x hx)) hsp
end Go.Proofs.Num
