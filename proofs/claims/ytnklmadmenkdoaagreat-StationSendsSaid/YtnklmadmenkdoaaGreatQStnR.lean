/- Arguments as the row reads them, opened: slices of bytes and of words. Arguments as the row reads them, opened: slices of anything, structs by value. Commands in a row: the list of what was taken; append of a command; the arguments opened. Whether a configuration of the ground segment is valid. The station's receiving part when it is new. -/
import Derived.Test.YtnklmadmenkdoaaGreatProg
import Derived.Test.YtnklmadmenkdoaaGreatQStr
import Derived.ChangeSlices
import Derived.WideShapes
import Derived.Carry
import Derived.OpenShut
import Derived.ProofKit
import Derived.Test.YtnklmadmenkdoaaGreatQSnrM
import Derived.Test.YtnklmadmenkdoaaGreatQSndU
import Derived.Test.YtnklmadmenkdoaaGreatQSndA
set_option linter.unusedVariables false
set_option linter.unusedSimpArgs false
namespace Go.Proofs.Num
open Go.RowKit Go.ChangeShapes
theorem wf32 {a : Int} (h : (Lit.int .u32 a).wf = true) : ∃ n : Nat, n < 4294967296 ∧ a = n := by
  have h1 : IntKind.u32.min = 0 := rfl
  have h2 : IntKind.u32.max = 4294967295 := rfl
  simp only [Lit.wf, Bool.and_eq_true, decide_eq_true_eq] at h
  exact ⟨a.toNat, by omega, by omega⟩
theorem wf16 {a : Int} (h : (Lit.int .u16 a).wf = true) : ∃ n : Nat, n < 65536 ∧ a = n := by
  have h1 : IntKind.u16.min = 0 := rfl
  have h2 : IntKind.u16.max = 65535 := rfl
  simp only [Lit.wf, Bool.and_eq_true, decide_eq_true_eq] at h
  exact ⟨a.toNat, by omega, by omega⟩
theorem wf8 {a : Int} (h : (Lit.int .u8 a).wf = true) : ∃ n : Nat, n < 256 ∧ a = n := by
  have h1 : IntKind.u8.min = 0 := rfl
  have h2 : IntKind.u8.max = 255 := rfl
  simp only [Lit.wf, Bool.and_eq_true, decide_eq_true_eq] at h
  exact ⟨a.toNat, by omega, by omega⟩
theorem wf64i {a : Int} (h : (Lit.int .i64 a).wf = true) : -9223372036854775808 ≤ a ∧ a < 9223372036854775808 := by
  have h1 : IntKind.i64.min = -9223372036854775808 := rfl
  have h2 : IntKind.i64.max = 9223372036854775807 := rfl
  simp only [Lit.wf, Bool.and_eq_true, decide_eq_true_eq] at h
  omega
theorem spot_none {w : World} {a : Addr} {v : Value} (h : w.cell? a = some v) : a = ⟨a.block, a.off, none⟩ := by
  unfold World.cell? at h
  split at h
  · split at h
    · cases h
    · rename_i hs
      obtain ⟨b, o, s⟩ := a
      cases s with
      | none => rfl
      | some x => simp at hs
  · cases h
theorem cell_lt {w : World} {a : Addr} {v : Value} (h : w.cell? a = some v) : a.block < w.heap.size := by
  unfold World.cell? at h
  rcases Nat.lt_or_ge a.block w.heap.size with l | l
  · exact l
  · rw [Array.getElem?_eq_none l] at h; cases h
theorem add_plain (b o n : Nat) : (⟨b, o, none⟩ : Addr).add n = ⟨b, o + n, none⟩ := by
  unfold Addr.add
  split
  · rename_i h; subst h; rfl
  · rfl
/-- A slice of integers of one kind, as cells. -/
theorem open_rowC {H : Type} {enc : TypeId × Value → H} {P : Program} {w : World} {base : Nat} {spare : Nat → Bool} {held : Bool} {fu : Nat} {cs : List Value} {x : DataW H × List MemPlace} {t e : TypeId} {k : IntKind} (ht : P.underlying t = some (.slice e)) (he : P.underlying e = some (.int k)) (hc1 : P.cellsOf e = 1)
    (h : DataW.trod enc P w base spare held fu t cs = some x) : ∃ v, cs = [v] ∧ ∃ xs : List Int, Rd w v (xs.map (Value.int k)) ∧ ∀ x ∈ xs, (Lit.int k x).wf = true := by
  rcases DataW.trod_slice ht h with ⟨hv, _⟩ | ⟨a, vl, vc, elems, rest, n, _, hv, _, _, hlc, hcm, hlen, hel, _⟩
  · exact ⟨_, hv, [], Rd.nil _ _ _ (by unfold maxLen; omega), by simp⟩
  · refine ⟨_, hv, ?_⟩
    have each : ∀ j, j < vl → ∃ x : Int, (Lit.int k x).wf = true ∧ w.cell? (a.add j) = some (.int k x) := by
      intro j hj
      have hE := hel j hj
      rw [hc1, Nat.mul_one, List.getElem?_eq_getElem (by omega)] at hE
      obtain ⟨cs, hc, ht⟩ := Option.bind_eq_some_iff.1 hE
      obtain ⟨_, hl, hcell⟩ := World.cells?_some hc
      match cs, hl with
      | [c0], _ =>
        obtain ⟨m, e0, _, w0⟩ := DataW.trod_int he ht
        have := hcell 0 (by decide)
        rw [show (a.add j).add 0 = a.add j by simp [Addr.add]] at this
        simp at e0
        exact ⟨m, w0, by rw [this]; simp [e0]⟩
    rcases Nat.eq_zero_or_pos vl with rfl | hpos
    · exact ⟨[], Rd.nil _ _ _ hcm, by simp⟩
    · obtain ⟨s0, _, q0⟩ := each 0 hpos
      have q1 : w.cell? a = some (.int k s0) := by simpa [Addr.add] using q0
      have hb := cell_lt q1
      have ha := spot_none q1
      obtain ⟨b, o, sp⟩ := a
      simp only at ha hb
      injection ha with _ _ ha
      subst ha
      obtain ⟨f, hf⟩ := Classical.axiomOfChoice (fun j : Fin vl => each j.1 j.2)
      refine ⟨List.ofFn f, ⟨some ⟨b, o, none⟩, vc, by simp, by simpa using ⟨hlc, hcm⟩, fun j hj => ⟨b, o, rfl, hb, ?_⟩⟩, fun s hs => ?_⟩
      · simp at hj
        obtain ⟨_, e0⟩ := hf ⟨j, hj⟩
        rw [add_plain] at e0
        simpa using e0
      · obtain ⟨j, rfl⟩ := List.mem_ofFn.1 hs
        exact (hf j).1
theorem open_row {H : Type} {enc : TypeId × Value → H} {P : Program} {w : World} {base : Nat} {spare : Nat → Bool} {held : Bool} {v : Value} {d : DataW H} {ps : List MemPlace} {t e : TypeId} {k : IntKind} (ht : P.underlying t = some (.slice e)) (he : P.underlying e = some (.int k)) (hc1 : P.cellsOf e = 1)
    {r : Reach} {b0 : Nat} (hval : Value.okWide P w r b0 t v) (h : DataW.Trod enc P w base spare held t v d ps) : ∃ xs : List Int, Rd w v (xs.map (Value.int k)) ∧ ∀ x ∈ xs, (Lit.int k x).wf = true := by
  obtain ⟨va, vl, vc, rfl⟩ := WideShapes.okWide_slice ht hval
  obtain ⟨fu, h⟩ := h
  obtain ⟨v', hv, r⟩ := open_rowC ht he hc1 h
  simp only [Value.cells, List.cons.injEq, and_true] at hv
  rw [← hv] at r
  exact r
theorem nats_of {k : IntKind} {m : Nat} : ∀ {xs : List Int}, (∀ x ∈ xs, ∃ n : Nat, n < m ∧ x = n) → ∃ l : List Nat, xs.map (Value.int k) = l.map (fun n => Value.int k (n : Nat)) ∧ ∀ x ∈ l, x < m
  | [], _ => ⟨[], rfl, by simp⟩
  | x :: xs, h => by
    obtain ⟨n, hn, rfl⟩ := h x (by simp)
    obtain ⟨l, h1, h2⟩ := nats_of (k := k) (xs := xs) (fun y hy => h y (by simp [hy]))
    exact ⟨n :: l, by simp [h1], by simpa [hn] using h2⟩
theorem open_u8s {H : Type} {enc : TypeId × Value → H} {P : Program} {w : World} {base : Nat} {spare : Nat → Bool} {held : Bool} {v : Value} {d : DataW H} {ps : List MemPlace} {t e : TypeId} (ht : P.underlying t = some (.slice e)) (he : P.underlying e = some (.int .u8)) (hc1 : P.cellsOf e = 1)
    {r : Reach} {b0 : Nat} (hval : Value.okWide P w r b0 t v) (h : DataW.Trod enc P w base spare held t v d ps) : ∃ l : List Nat, RdB w v l := by
  obtain ⟨xs, h1, h2⟩ := open_row ht he hc1 hval h
  obtain ⟨l, h3, h4⟩ := nats_of (k := .u8) (fun x hx => wf8 (h2 x hx))
  exact ⟨l, by rw [h3] at h1; exact h1, h4⟩
theorem open_u32s {H : Type} {enc : TypeId × Value → H} {P : Program} {w : World} {base : Nat} {spare : Nat → Bool} {held : Bool} {v : Value} {d : DataW H} {ps : List MemPlace} {t e : TypeId} (ht : P.underlying t = some (.slice e)) (he : P.underlying e = some (.int .u32)) (hc1 : P.cellsOf e = 1)
    {r : Reach} {b0 : Nat} (hval : Value.okWide P w r b0 t v) (h : DataW.Trod enc P w base spare held t v d ps) : ∃ l : List Nat, RdW w v l := by
  obtain ⟨xs, h1, h2⟩ := open_row ht he hc1 hval h
  obtain ⟨l, h3, h4⟩ := nats_of (k := .u32) (fun x hx => wf32 (h2 x hx))
  exact ⟨l, by rw [h3] at h1; exact h1, h4⟩
/-- An argument reads behind the call as it did before. -/
theorem below_trod {H : Type} {enc : TypeId × Value → H} {P : Program} {t : TypeId} (hl : laidOutB P = true) (hr : P.readableRec t = true) (hrow : t < P.types.size) {W W' : World} {v : Value} {d : DataW H} {ps : List MemPlace}
    (h : DataW.Trod enc P W 0 (fun _ => true) true t v d ps) (hb : Below W.heap.size W W') (hlt : ∀ x ∈ ps, x.block < W.heap.size) {sp : Nat → Bool} (hsp : ∀ x ∈ ps, sp x.block = true) :
    DataW.Trod enc P W' 0 sp true t v d ps :=
  WideElems.Trod_stays hl hr hrow h (fun x hx => hb.same (hlt x hx)) hsp
end Go.Proofs.Num
namespace Go.Proofs.Num
open Go.RowKit Go.ChangeShapes
/-- The slice v reads as the list S: each element lies in size cells, of which E speaks. -/
def SliceOf {α : Type} (w : World) (size : Nat) (E : World → List Value → α → Prop) (v : Value) (S : List α) : Prop :=
  ∃ a cap, v = .slice a S.length cap ∧ (S.length ≤ cap ∧ cap ≤ maxLen) ∧ ∀ j, (h : j < S.length) → ∃ b off cs, a = some ⟨b, off, none⟩ ∧ b < w.heap.size ∧ cs.length = size ∧
    (∀ i, (hi : i < cs.length) → w.cell? ⟨b, off + j * size + i, none⟩ = some cs[i]) ∧ E w cs S[j]
theorem SliceOf.below {α : Type} {w w' : World} {size : Nat} {E : World → List Value → α → Prop} {v : Value} {S : List α} (h : SliceOf w size E v S) (hE : ∀ cs s, E w cs s → E w' cs s) (k : Below w.heap.size w w') : SliceOf w' size E v S := by
  obtain ⟨a, cap, h1, h2, h3⟩ := h
  refine ⟨a, cap, h1, h2, fun j hj => ?_⟩
  obtain ⟨b, off, cs, g1, g2, g3, g4, g5⟩ := h3 j hj
  exact ⟨b, off, cs, g1, by have := k.size; omega, g3, fun i hi => by rw [k.cell g2]; exact g4 i hi, hE _ _ g5⟩
theorem SliceOf.nil {α : Type} (w : World) (size : Nat) (E : World → List Value → α → Prop) (a : Option Addr) (cap : Nat) (h : cap ≤ maxLen) : SliceOf w size E (.slice a 0 cap) ([] : List α) :=
  ⟨a, cap, rfl, ⟨Nat.zero_le _, h⟩, fun j hj => absurd hj (by simp)⟩
section
variable {H : Type} {enc : TypeId × Value → H} {P : Program} {w : World} {base : Nat} {spare : Nat → Bool} {held : Bool}
theorem open_sliceC {α : Type} {E : World → List Value → α → Prop} {fu : Nat} {cs : List Value} {x : DataW H × List MemPlace} {t e : TypeId} {size : Nat} (ht : P.underlying t = some (.slice e)) (hc : P.cellsOf e = size) (hpos0 : 0 < size)
    (hE : ∀ n cs x, DataW.trod enc P w base spare held n e cs = some x → cs.length = size → ∃ s, E w cs s)
    (h : DataW.trod enc P w base spare held fu t cs = some x) : ∃ v, cs = [v] ∧ ∃ S : List α, SliceOf w size E v S := by
  rcases DataW.trod_slice ht h with ⟨hv, _⟩ | ⟨a, vl, vc, elems, rest, n, _, hv, _, _, hlc, hcm, hlen, hel, _⟩
  · exact ⟨_, hv, [], SliceOf.nil _ _ _ _ _ (by unfold maxLen; omega)⟩
  · refine ⟨_, hv, ?_⟩
    have each : ∀ j, j < vl → ∃ s : α, ∃ cs : List Value, cs.length = size ∧ (∀ i, (hi : i < cs.length) → w.cell? ((a.add (j * size)).add i) = some cs[i]) ∧ E w cs s := by
      intro j hj
      have hE' := hel j hj
      rw [hc, List.getElem?_eq_getElem (by omega)] at hE'
      obtain ⟨cs, hc2, ht2⟩ := Option.bind_eq_some_iff.1 hE'
      obtain ⟨_, hl, hcell⟩ := World.cells?_some hc2
      obtain ⟨s, hs⟩ := hE _ _ _ ht2 hl
      refine ⟨s, cs, hl, fun i hi => ?_, hs⟩
      have := hcell i (by omega)
      rw [this]
      simp [List.getElem?_eq_getElem hi]
    rcases Nat.eq_zero_or_pos vl with rfl | hpos
    · exact ⟨[], SliceOf.nil _ _ _ _ _ hcm⟩
    · obtain ⟨s0, cs0, l0, q0, _⟩ := each 0 hpos
      have q1 := q0 0 (by omega)
      have e0 : (a.add (0 * size)).add 0 = a := by simp [Addr.add]
      rw [e0] at q1
      have hb := cell_lt q1
      have ha := spot_none q1
      obtain ⟨b, o, sp⟩ := a
      simp only at ha hb
      injection ha with _ _ ha
      subst ha
      obtain ⟨f, hf⟩ := Classical.axiomOfChoice (fun j : Fin vl => each j.1 j.2)
      refine ⟨List.ofFn f, some ⟨b, o, none⟩, vc, by simp, by simpa using ⟨hlc, hcm⟩, fun j hj => ?_⟩
      simp at hj
      obtain ⟨cs, hl, hcell, hs⟩ := hf ⟨j, hj⟩
      refine ⟨b, o, cs, rfl, hb, hl, fun i hi => ?_, by simpa using hs⟩
      have := hcell i hi
      rw [add_plain, add_plain] at this
      exact this
theorem open_slice {α : Type} {E : World → List Value → α → Prop} {v : Value} {d : DataW H} {ps : List MemPlace} {t e : TypeId} {size : Nat} (ht : P.underlying t = some (.slice e)) (hc : P.cellsOf e = size) (hpos0 : 0 < size)
    (hE : ∀ n cs x, DataW.trod enc P w base spare held n e cs = some x → cs.length = size → ∃ s, E w cs s)
    {r : Reach} {b0 : Nat} (hval : Value.okWide P w r b0 t v) (h : DataW.Trod enc P w base spare held t v d ps) : ∃ S : List α, SliceOf w size E v S := by
  obtain ⟨va, vl, vc, rfl⟩ := WideShapes.okWide_slice ht hval
  obtain ⟨fu, h⟩ := h
  obtain ⟨v', hv, r⟩ := open_sliceC ht hc hpos0 hE h
  simp only [Value.cells, List.cons.injEq, and_true] at hv
  rw [← hv] at r
  exact r
/-- A struct that came by value: its cells. -/
theorem open_aggC {v : Value} {d : DataW H} {ps : List MemPlace} {t : TypeId} {fs : Array Field} (ht : P.underlying t = some (.struct fs))
    {r : Reach} {b0 : Nat} (hval : Value.okWide P w r b0 t v) (h : DataW.Trod enc P w base spare held t v d ps) : ∃ cs : Array Value, v = .agg cs ∧ cs.size = P.cellsOf t ∧ ∃ fu x, DataW.trod enc P w base spare held fu t cs.toList = some x := by
  obtain ⟨cs, rfl, hs⟩ := WideShapes.okWide_struct ht hval
  obtain ⟨fu, h⟩ := h
  exact ⟨cs, rfl, hs, fu, _, h⟩
end
end Go.Proofs.Num
namespace Cmd
/-- An order that was taken, as it lies in memory. -/
structure Ord where
  sv : Nat
  aa : Option Go.Addr
  ca : Nat
  args : List Int
  ad : Option Go.Addr
  cd : Nat
  data : List Nat
def Ord.cells (c : Ord) (num : Nat) : List Go.Value := [.int .i64 1, .int .i64 (num : Int), .int .i64 (c.sv : Int), .slice c.aa c.args.length c.ca, .slice c.ad c.data.length c.cd]
/-- The cells of the orders, numbered from i + 1 on. -/
def wC : Nat → List Ord → List Go.Value
  | _, [] => []
  | i, c :: l => c.cells (i + 1) ++ wC (i + 1) l
/-- Their packets. -/
def uC : Nat → List Ord → List (List Nat)
  | _, [] => []
  | i, c :: l => pkB true false 10 3 i (enc 1 (i + 1) c.sv c.args c.data) :: uC (i + 1) l
theorem wC_snoc : ∀ (l : List Ord) (i : Nat) (c : Ord), wC i (l ++ [c]) = wC i l ++ c.cells (i + l.length + 1)
  | [], i, c => by simp [wC]
  | x :: l, i, c => by simp only [List.cons_append, wC, wC_snoc l, List.append_assoc, List.length_cons]; rw [show i + 1 + l.length + 1 = i + (l.length + 1) + 1 by omega]
theorem uC_snoc : ∀ (l : List Ord) (i : Nat) (c : Ord), uC i (l ++ [c]) = uC i l ++ [pkB true false 10 3 (i + l.length) (enc 1 (i + l.length + 1) c.sv c.args c.data)]
  | [], i, c => by simp [uC]
  | x :: l, i, c => by simp only [List.cons_append, uC, uC_snoc l, List.length_cons]; rw [show i + 1 + l.length = i + (l.length + 1) by omega]
theorem wC_len : ∀ (l : List Ord) (i : Nat), (wC i l).length = l.length * 5
  | [], _ => rfl
  | x :: l, i => by simp only [wC, List.length_append, wC_len l, List.length_cons, Ord.cells]; simp; omega
theorem uC_len : ∀ (l : List Ord) (i : Nat), (uC i l).length = l.length
  | [], _ => rfl
  | x :: l, i => by simp [uC, uC_len l]
theorem uC_get : ∀ (l : List Ord) (i k : Nat) (hk : k < l.length), (uC i l)[k]? = some (pkB true false 10 3 (i + k) (enc 1 (i + k + 1) l[k].sv l[k].args l[k].data))
  | [], _, _, hk => by simp at hk
  | x :: l, i, 0, hk => by simp [uC]
  | x :: l, i, k + 1, hk => by
    have := uC_get l (i + 1) k (by simpa using hk)
    simp only [uC, List.getElem?_cons_succ, List.getElem_cons_succ, this]
    rw [show i + 1 + k = i + (k + 1) by omega]
theorem wC_get : ∀ (l : List Ord) (i k j : Nat) (hk : k < l.length), j < 5 → (wC i l)[k * 5 + j]? = (l[k].cells (i + k + 1))[j]?
  | [], _, _, _, hk, _ => by simp at hk
  | x :: l, i, 0, j, hk, hj => by
    simp only [wC, Nat.zero_mul, Nat.zero_add, List.getElem_cons_zero]
    rw [List.getElem?_append_left (by simpa [Ord.cells] using hj)]
  | x :: l, i, k + 1, j, hk, hj => by
    have := wC_get l (i + 1) k j (by simpa using hk) hj
    simp only [wC, List.getElem_cons_succ]
    rw [List.getElem?_append_right (by simp [Ord.cells]; omega), show (k + 1) * 5 + j - (x.cells (i + 1)).length = k * 5 + j by simp [Ord.cells]; omega, this]
    rw [show i + 1 + k = i + (k + 1) by omega]
end Cmd
namespace Go.Proofs.YtnklmadmenkdoaaGreat
open Go.RowKit Go.Proofs.Num Go.ChangeShapes
theorem Sts.grownS {W w w1 : World} {l : List HProp} {e : TypeId} {s : Nat} {v v' : Value} {n n' : Nat} {xs xs' : List Value} (hl : ∀ A ∈ l, Stable A) (h : Sts W (rowP e s v n xs :: l) w)
    (hg : w.grownBy w1 v.ownBlock) (ho : w1.ownsRow 0 e s v' n' xs') (hv : ∀ k, v'.ownBlock = some k → v.ownBlock = some k ∨ w.heap.size ≤ k) : Sts W (rowP e s v' n' xs' :: l) w1 := by
  obtain ⟨F, ⟨F1, F2, ⟨a, hF1⟩, r, hd, hF⟩, hb, hn⟩ := h
  have hs := stars_stable hl
  have hk : Keep F1 w w1 := Keep.of_grown hg (fun k hk _ => (hF1 k).2 hk)
  refine ⟨fun k => v'.ownBlock = some k ∨ F2 k, ⟨fun k => v'.ownBlock = some k, F2, ⟨ho, fun k => Iff.rfl⟩, hs.keep r hk (fun k h2 h1 => hd k h1 h2), ?_, fun k => Iff.rfl⟩, ?_, ?_⟩
  · intro k h1 h2
    rcases hv k h1 with h | h
    · exact hd k ((hF1 k).2 h) h2
    · have := hs.dom r k h2; omega
  · exact hb.grown hg hb.size (fun k hk => hn k ((hF k).2 (Or.inl ((hF1 k).2 hk))))
  · rintro k (h | h)
    · rcases hv k h with h' | h'
      · exact hn k ((hF k).2 (Or.inl ((hF1 k).2 h')))
      · have := hb.size; omega
    · exact hn k ((hF k).2 (Or.inr h))
theorem Sts.rowOwnS {W w : World} {l : List HProp} {e : TypeId} {s : Nat} {v : Value} {n : Nat} {xs : List Value} (h : Sts W (rowP e s v n xs :: l) w) : w.ownsRow 0 e s v n xs := by
  obtain ⟨F, a, _⟩ := h.head; exact a
theorem Sts.rowNilS {W w : World} {l : List HProp} (e : TypeId) (s : Nat) (h : Sts W l w) : Sts W (rowP e s (.slice none 0 0) 0 [] :: l) w := by
  obtain ⟨F, a, b, c⟩ := h
  exact ⟨F, ⟨fun _ => False, F, ⟨⟨by simp, Or.inl ⟨rfl, rfl⟩⟩, fun k => by simp [Value.ownBlock]⟩, a, fun _ h => h.elim, fun k => by simp⟩, b, c⟩
theorem infoCmd5 : (Tryz.prog.info? 39).map (fun i => (i.zero, i.size, i.bytes)) = some (some (.agg zeroCmd), 5, 72) := by kernel_rfl
set_option maxRecDepth 100000 in
theorem exec_bld5 {o : Oper} {a : Act} {w : World} (x : Operand) (ho : o.op = .buildSlice 33 1 #[(0, x)]) (src num sv : Int) (a1 a2 : Option Addr) (n1 c1 n2 c2 : Nat) (hx : a.eval x = .agg #[.int .i64 src, .int .i64 num, .int .i64 sv, .slice a1 n1 c1, .slice a2 n2 c2]) :
    (execOp a.eval o).run Tryz.prog w = .ok (.value (.slice (some ⟨w.heap.size, 0, none⟩) 1 1)) (w.alloc (.cells #[.int .i64 src, .int .i64 num, .int .i64 sv, .slice a1 n1 c1, .slice a2 n2 c2] 39)) := by
  have key : ∀ u, u = Value.agg #[.int .i64 src, .int .i64 num, .int .i64 sv, .slice a1 n1 c1, .slice a2 n2 c2] → (Instr.buildSlice 33 1 #[(0, u)]).run Tryz.prog w = .ok (.slice (some ⟨w.heap.size, 0, none⟩) 1 1) (w.alloc (.cells #[.int .i64 src, .int .i64 num, .int .i64 sv, .slice a1 n1 c1, .slice a2 n2 c2] 39)) := by
    rintro u rfl
    kernel_rfl
  unfold execOp
  simp only [ho]
  rw [show Array.map (fun x => (x.fst, a.eval x.snd)) #[((0 : Nat), x)] = #[(0, a.eval x)] by simp]
  simp only [Sem.run_bind, key _ hx, Result.andThen]
  rfl
theorem wpList_bld5 {ops : Array Oper} {rest : List Oper} {o : Oper} {a : Act} {Q : Exit → Act → World → Prop} {W w : World} {L : List HProp} (hgd : o.guard = none) (x : Operand) (ho : o.op = .buildSlice 33 1 #[(0, x)]) (src num sv : Int) (a1 a2 : Option Addr) (n1 c1 n2 c2 : Nat) (hx : a.eval x = .agg #[.int .i64 src, .int .i64 num, .int .i64 sv, .slice a1 n1 c1, .slice a2 n2 c2]) (hS : Sts W L w) (hL : ∀ B ∈ L, Stable B)
    (h : ∀ g w', Sts W (blkP g (.cells #[.int .i64 src, .int .i64 num, .int .i64 sv, .slice a1 n1 c1, .slice a2 n2 c2] 39 (0, 0)) :: L) w' → wpList Tryz.prog ops Q rest (a.put o.dst (.slice (some ⟨g, 0, none⟩) 1 1)) w') : wpList Tryz.prog ops Q (o :: rest) a w := by
  refine wpList_plain hgd fun K hK => ?_
  unfold Oper.wp
  rw [exec_bld5 x ho src num sv a1 a2 n1 c1 n2 c2 hx]
  exact hK _ _ (h _ _ (hS.alloc hL _))
theorem wpList_app5 {ops : Array Oper} {rest : List Oper} {o : Oper} {a : Act} {Q : Exit → Act → World → Prop} {W w : World} {L : List HProp} {v : Value} {n : Nat} {xs : List Value} (hgd : o.guard = none) (s x : Operand)
    (ho : o.op = .call { callee := .builtin .append, args := #[s, x], argTypes := #[33, 33] }) {g : Nat} {c : Array Value} (hc : c.size = 5) (hS : Sts W (rowP 39 5 v n xs :: blkP g (.cells c 39 (0, 0)) :: L) w) (hL : ∀ B ∈ L, Stable B)
    (hs : a.eval s = v) (hx : a.eval x = .slice (some ⟨g, 0, none⟩) 1 1) (h1 : ∀ u ∈ c.toList, u.oneCell' = true) (hn : n < 1000000)
    (h : ∀ v' w', Sts W (rowP 39 5 v' (n + 1) (xs ++ c.toList) :: L) w' → wpList Tryz.prog ops Q rest (a.put o.dst v') w') : wpList Tryz.prog ops Q (o :: rest) a w := by
  refine wpList_plain hgd fun K hK => ?_
  obtain ⟨i0, hi, hz0, hz1, hz2⟩ := info_parts infoCmd5
  have hb : w.heap[g]? = some (.cells c 39 (0, 0)) := by obtain ⟨F, hF⟩ := hS.swap.head; exact hF.1
  obtain ⟨v', w', hrun, hown, hgr, _, hbl⟩ := run_append_own_at (P := Tryz.prog) w 0 33 o.type 39 i0 (.agg zeroCmd) 5 72 Tryz.underlying33 hi hz0 hz1 hz2 rfl (by decide) v n xs (Sts.rowOwnS hS) ⟨g, 0, none⟩ 1 1 c.toList (by simp [hc]) (news_blk hb rfl) h1 (by unfold maxLen; omega) (by omega) (Nat.zero_le _)
  have hS2 := Sts.grownS (stabC (blkP_stable _ _) hL) hS hgr hown (by
    intro k hk
    rcases hbl with h | h
    · exact Or.inl (h ▸ hk)
    · rw [h] at hk; injection hk with hk; exact Or.inr (by omega))
  unfold Oper.wp
  simp [execOp, ho, resolve, invoke, builtin, hs, hx, hrun, Result.andThen]
  exact hK _ _ (h v' w' hS2.swap.tail)
/-- An order as an argument. -/
structure Odr where
  s : Int
  aa : Option Addr
  ca : Nat
  args : List Int
  ad : Option Addr
  cd : Nat
  data : List Nat
def OdrE (w : World) (cs : List Value) (o : Odr) : Prop :=
  cs = [.int .i64 o.s, .slice o.aa o.args.length o.ca, .slice o.ad o.data.length o.cd] ∧ Rd w (.slice o.aa o.args.length o.ca) (i64s o.args) ∧ RdB w (.slice o.ad o.data.length o.cd) o.data ∧ (o.ad = none → o.cd = 0) ∧ (-9223372036854775808 ≤ o.s ∧ o.s < 9223372036854775808)
abbrev OdrsAt (w : World) (v : Value) (S : List Odr) : Prop := SliceOf w 3 OdrE v S
section
variable {H : Type} {enc : TypeId × Value → H} {w : World} {base : Nat} {spare : Nat → Bool} {held : Bool}
set_option maxRecDepth 100000 in
theorem open_nilok {fu : Nat} {cs : List Value} {x : DataW H × List MemPlace} {t e : TypeId} (ht : Tryz.prog.underlying t = some (.slice e)) (h : DataW.trod enc Tryz.prog w base spare held fu t cs = some x) : ∀ a n c, cs = [.slice a n c] → a = none → c = 0 := by
  intro a n c hc ha
  rcases DataW.trod_slice ht h with ⟨hv, _⟩ | ⟨a', vl, vc, elems, rest, n', _, hv, _⟩
  · rw [hv] at hc; injection hc with hc; injection hc with h1 h2 h3; exact h3.symm
  · rw [hv] at hc; injection hc with hc; injection hc with h1 h2 h3; rw [ha] at h1; cases h1
set_option maxRecDepth 100000 in
set_option maxHeartbeats 1000000 in
theorem open_odrs {v : Value} {d : DataW H} {ps : List MemPlace} {r : Reach} {b0 : Nat} (hval : Value.okWide Tryz.prog w r b0 22 v) (h : DataW.Trod enc Tryz.prog w base spare held 22 v d ps) : ∃ S, OdrsAt w v S := by
  obtain ⟨va, vl, vc, rfl⟩ := WideShapes.okWide_slice Tryz.underlying22 hval
  obtain ⟨fu, h⟩ := h
  obtain ⟨v', hv, S, hS⟩ := open_sliceC (E := OdrE) (size := 3) Tryz.underlying22 (by kernel_rfl) (by decide) (by
    intro n cs x h hl
    match cs, hl with
    | [u0, u1, u2], _ =>
      obtain ⟨xs, m, _, _, _, hlen, hf⟩ := DataW.trod_struct Tryz.underlying37 h
      match xs, hlen with
      | [x0, x1, x2], _ =>
        have g0 : DataW.trod enc Tryz.prog w base spare held m 3 (([u0, u1, u2].drop 0).take (Tryz.prog.cellsOf 3)) = some x0 := hf 0 _ rfl
        have g1 : DataW.trod enc Tryz.prog w base spare held m 34 (([u0, u1, u2].drop 1).take (Tryz.prog.cellsOf 34)) = some x1 := hf 1 _ rfl
        have g2 : DataW.trod enc Tryz.prog w base spare held m 35 (([u0, u1, u2].drop 2).take (Tryz.prog.cellsOf 35)) = some x2 := hf 2 _ rfl
        rw [show Tryz.prog.cellsOf 3 = 1 by kernel_rfl] at g0
        rw [show Tryz.prog.cellsOf 34 = 1 by kernel_rfl] at g1
        rw [show Tryz.prog.cellsOf 35 = 1 by kernel_rfl] at g2
        obtain ⟨n0, e0, _, w0⟩ := DataW.trod_int Tryz.underlying3 g0
        obtain ⟨v1, e1, ys1, hy1, _⟩ := open_rowC Tryz.underlying34 Tryz.underlying3 (by kernel_rfl) g1
        obtain ⟨v2, e2, ys2, hy2, hz2⟩ := open_rowC Tryz.underlying35 Tryz.underlying5 (by kernel_rfl) g2
        obtain ⟨l2, k2, hl2⟩ := nats_of (k := .u8) (fun x hx => wf8 (hz2 x hx))
        rw [k2] at hy2
        obtain ⟨a1, c1, hv1⟩ := hy1.eq
        obtain ⟨a2, c2, hv2⟩ := hy2.eq
        have hnl := open_nilok Tryz.underlying35 g2 a2 _ c2 (by rw [e2, hv2])
        simp at e0 e1 e2
        subst hv1
        subst hv2
        refine ⟨⟨n0, a1, c1, ys1, a2, c2, l2⟩, ?_, by simpa [i64s] using hy1, ⟨by simpa [u8s] using hy2, hl2⟩, hnl, wf64i w0⟩
        rw [e0, e1, e2, List.length_map, List.length_map]) h
  simp only [Value.cells, List.cons.injEq, and_true] at hv
  exact ⟨S, by rw [hv]; exact hS⟩
end
end Go.Proofs.YtnklmadmenkdoaaGreat
namespace Go.Proofs.YtnklmadmenkdoaaGreat
open Go.RowKit Go.Proofs.Num
set_option maxRecDepth 100000 in
theorem cWithinT (w : World) (n lo hi : Int) (h : lo ≤ n ∧ n ≤ hi) : Calls Tryz.prog 103 #[.int .i64 n, .int .i64 lo, .int .i64 hi] w fun e w' => e = .returned (.bool true) ∧ w = w' := by
  have d1 : decide (lo ≤ n) = true := decide_eq_true h.1
  have d2 : decide (n ≤ hi) = true := decide_eq_true h.2
  clear h
  go_enter Tryz.func103, Tryz.ntmps103
  go_wp2_with fail
  go_ret
  exact ⟨rfl, rfl⟩
set_option maxRecDepth 100000 in
theorem cWithinF (w : World) (n lo hi : Int) (h : n < lo ∨ hi < n) : Calls Tryz.prog 103 #[.int .i64 n, .int .i64 lo, .int .i64 hi] w fun e w' => e = .returned (.bool false) ∧ w = w' := by
  by_cases c : lo ≤ n
  · have d1 : decide (lo ≤ n) = true := decide_eq_true c
    have d2 : decide (n ≤ hi) = false := decide_eq_false (by omega)
    clear h c
    go_enter Tryz.func103, Tryz.ntmps103
    go_wp2_with fail
    go_ret
    exact ⟨rfl, rfl⟩
  · have d1 : decide (lo ≤ n) = false := decide_eq_false c
    clear h c
    go_enter Tryz.func103, Tryz.ntmps103
    go_wp2_with fail
    go_ret
    exact ⟨rfl, rfl⟩
section
variable {W w : World} {l : List HProp} (hl : ∀ B ∈ l, Stable B)
include hl
set_option maxRecDepth 100000 in
set_option maxHeartbeats 4000000 in
/-- A configuration whose numbers are in their ranges. -/
theorem cValidT (craft win size to re fc ft fr : Int) (hs : Sts W l w) (h1 : 0 ≤ craft ∧ craft ≤ 1023) (h2 : 1 ≤ win ∧ win ≤ 127) (h3 : 64 ≤ size ∧ size ≤ 1024) (h4 : 1 ≤ to ∧ to ≤ 1048576) (h5 : 1 ≤ re ∧ re ≤ 255) (h6 : 1 ≤ fc ∧ fc ≤ 512) (h7 : 1 ≤ ft ∧ ft ≤ 1048576) (h8 : 0 ≤ fr ∧ fr ≤ 255) :
    Calls Tryz.prog 37 #[.agg #[.int .i64 craft, .int .i64 win, .int .i64 size, .int .i64 to, .int .i64 re, .int .i64 fc, .int .i64 ft, .int .i64 fr]] w fun e w' => e = .returned (.bool true) ∧ Sts W l w' := by
  have HS := hid (hs.alloc hl (.cells #[.int .i64 craft, .int .i64 win, .int .i64 size, .int .i64 to, .int .i64 re, .int .i64 fc, .int .i64 ft, .int .i64 fr] 31))
  have HL := hid (stabC (blkP_stable w.heap.size (.cells #[.int .i64 craft, .int .i64 win, .int .i64 size, .int .i64 to, .int .i64 re, .int .i64 fc, .int .i64 ft, .int .i64 fr] 31 (0, 0))) hl)
  have k0 := (Sts.boxCell HS.out 0 _ rfl).1
  have k1 := (Sts.boxCell HS.out 1 _ rfl).1
  have k2 := (Sts.boxCell HS.out 2 _ rfl).1
  have k3 := (Sts.boxCell HS.out 3 _ rfl).1
  have k4 := (Sts.boxCell HS.out 4 _ rfl).1
  have k5 := (Sts.boxCell HS.out 5 _ rfl).1
  have k6 := (Sts.boxCell HS.out 6 _ rfl).1
  have k7 := (Sts.boxCell HS.out 7 _ rfl).1
  have H1 := hid h1
  have H2 := hid h2
  have H3 := hid h3
  have H4 := hid h4
  have H5 := hid h5
  have H6 := hid h6
  have H7 := hid h7
  have H8 := hid h8
  clear hs h1 h2 h3 h4 h5 h6 h7 h8
  go_enter Tryz.func37, Tryz.ntmps37
  go_wp2_with (first
    | (go_at_call 103; refine (cWithinT _ craft _ _ H1.out).mono ?_; rintro e w2 ⟨rfl, rfl⟩; clear H1)
    | (go_at_call 103; refine (cWithinT _ win _ _ H2.out).mono ?_; rintro e w2 ⟨rfl, rfl⟩; clear H2)
    | (go_at_call 103; refine (cWithinT _ size _ _ H3.out).mono ?_; rintro e w2 ⟨rfl, rfl⟩; clear H3)
    | (go_at_call 103; refine (cWithinT _ to _ _ H4.out).mono ?_; rintro e w2 ⟨rfl, rfl⟩; clear H4)
    | (go_at_call 103; refine (cWithinT _ re _ _ H5.out).mono ?_; rintro e w2 ⟨rfl, rfl⟩; clear H5)
    | (go_at_call 38; refine (cEntity HL.out fc ft fr HS.out H6.out H7.out H8.out).mono ?_; rintro e w3 ⟨c, m1, m2, m3, q, m, rfl, h⟩; have HX := hid (show Sts W l w3 from (h.tail.tail.tail.tail.tail.tail).tail); clear h))
  go_ret
  exact ⟨rfl, HX.out⟩
end
end Go.Proofs.YtnklmadmenkdoaaGreat
namespace Go.Proofs.YtnklmadmenkdoaaGreat
open Go.RowKit Go.Proofs.Num
/-- The blocks that a new receiving part leads to. -/
def recL (z : Int) (fi ar u0 u1 u2 : Nat) : List HProp :=
  [blkP u2 (.cells #[.bool true, .bool false, .bool false, .int .i64 0, .int .i64 0, .slice none 0 0] 302 (0, 0)), blkP u1 (.cells #[.bool true, .bool false, .bool false, .int .i64 0, .int .i64 0, .slice none 0 0] 302 (0, 0)), blkP u0 (.cells #[.bool true, .bool false, .bool false, .int .i64 0, .int .i64 0, .slice none 0 0] 302 (0, 0)), blkP ar (.cells #[.bool true, .slice none 0 0] 185 (0, 0)), blkP fi (.cells #[.int .i64 z, .int .i64 0, .slice none 0 0] 234 (0, 0))]
set_option maxRecDepth 100000 in
theorem sizeRec : ∀ w, (Go.sizeOf 112).run Tryz.prog w = .ok 7 w := fun w => by first | rfl | simp [go_sem] | kernel_rfl
set_option maxRecDepth 100000 in
theorem szUnp : ∀ w, (Go.sizeOf 108).run Tryz.prog w = .ok 1 w := fun w => by first | rfl | simp [go_sem] | kernel_rfl
set_option maxRecDepth 100000 in
theorem infoRec : (Tryz.prog.info? 112).map (·.size) = some 7 := by kernel_rfl
theorem ldRec {W w : World} {l : List HProp} {b : Nat} {x0 x1 x2 x3 x4 x5 x6 : Value} (h : Sts W (blkP b (.cells #[x0, x1, x2, x3, x4, x5, x6] 112 (0, 0)) :: l) w) : (loadVar 112 ⟨b, 0, none⟩).run Tryz.prog w = .ok (.agg #[x0, x1, x2, x3, x4, x5, x6]) w := by
  have hb : w.heap[b]? = some (.cells #[x0, x1, x2, x3, x4, x5, x6] 112 (0, 0)) := by obtain ⟨F, hF⟩ := h.head; exact hF.1
  exact run_loadVar_row (P := Tryz.prog) w b 112 112 #[x0, x1, x2, x3, x4, x5, x6] (0, 0) _ hb Tryz.underlying112 rfl (by rw [infoRec]; rfl)
section
variable {W w : World} {l : List HProp} (hl : ∀ B ∈ l, Stable B)
include hl
set_option maxRecDepth 100000 in
set_option maxHeartbeats 4000000 in
theorem cRecNew (z : Int) (t c : Option Addr) (hs : Sts W l w) (h1 : 1 ≤ z) (h2 : z ≤ 1024) :
    Calls Tryz.prog 39 #[.int .i64 z, .pointer t, .pointer c] w fun e w' => ∃ fi ar u0 u1 u2, e = .returned (.agg #[.pointer (some ⟨fi, 0, none⟩), .pointer (some ⟨u0, 0, none⟩), .pointer (some ⟨u1, 0, none⟩), .pointer (some ⟨u2, 0, none⟩), .pointer (some ⟨ar, 0, none⟩), .pointer t, .pointer c]) ∧ Sts W (recL z fi ar u0 u1 u2 ++ l) w' := by
  have H0 := hid (hs.alloc hl (.cells #[.pointer none, .pointer none, .pointer none, .pointer none, .pointer none, .pointer none, .pointer none] 112))
  have HL0 := hid (stabC (blkP_stable w.heap.size (.cells #[.pointer none, .pointer none, .pointer none, .pointer none, .pointer none, .pointer none, .pointer none] 112 (0, 0))) hl)
  clear hs
  go_enter Tryz.func39, Tryz.ntmps39
  go_wp2_with (first | (go_at_call 106; refine (cFinNew HL0.out H0.out z h1 h2).mono ?_; rintro e w2 ⟨fi, rfl, h⟩; have HF := hid h; clear h) | (go_at_call 34; refine (cArcNew (stabC (blkP_stable _ _) HL0.out) HF.out).mono ?_; rintro e w3 ⟨ar, rfl, h⟩; have HA := hid (h.alloc (stabC (blkP_stable _ _) (stabC (blkP_stable _ _) HL0.out)) (.cells #[.pointer none, .pointer none, .pointer none, .pointer none, .pointer none, .pointer none, .pointer none] 112)); clear h HF) | (refine wpList_aggS HA.out (stabC (blkP_stable _ _) (stabC (blkP_stable _ _) HL0.out)) rfl (.tmp 7) (.tmp 14) 112 rfl #[.pointer (some ⟨fi, 0, none⟩), .pointer none, .pointer none, .pointer none, .pointer (some ⟨ar, 0, none⟩), .pointer t, .pointer c] rfl rfl sizeRec rfl rfl ?_; intro w4 h4; have HB := hid h4; clear h4 HA))
  obtain ⟨rb, hrb⟩ : ∃ rb, rb = w3.heap.size := ⟨_, rfl⟩
  rw [← hrb] at HB ⊢
  have HLR := hid (show ∀ B ∈ blkP ar (.cells #[.bool true, .slice none 0 0] 185 (0, 0)) :: blkP fi (.cells #[.int .i64 z, .int .i64 0, .slice none 0 0] 234 (0, 0)) :: blkP w.heap.size (.cells #[.pointer none, .pointer none, .pointer none, .pointer none, .pointer none, .pointer none, .pointer none] 112 (0, 0)) :: l, Stable B from stabC (blkP_stable _ _) (stabC (blkP_stable _ _) HL0.out))
  clear hrb
  go_loopw [15] (fun i wr => (i = .int .i64 0 ∧ Sts W (blkP rb (.cells #[.pointer (some ⟨fi, 0, none⟩), .pointer none, .pointer none, .pointer none, .pointer (some ⟨ar, 0, none⟩), .pointer t, .pointer c] 112 (0, 0)) :: blkP ar (.cells #[.bool true, .slice none 0 0] 185 (0, 0)) :: blkP fi (.cells #[.int .i64 z, .int .i64 0, .slice none 0 0] 234 (0, 0)) :: blkP w.heap.size (.cells #[.pointer none, .pointer none, .pointer none, .pointer none, .pointer none, .pointer none, .pointer none] 112 (0, 0)) :: l) wr) ∨ (∃ a0, i = .int .i64 1 ∧ Sts W (blkP rb (.cells #[.pointer (some ⟨fi, 0, none⟩), .pointer (some ⟨a0, 0, none⟩), .pointer none, .pointer none, .pointer (some ⟨ar, 0, none⟩), .pointer t, .pointer c] 112 (0, 0)) :: blkP a0 (.cells #[.bool true, .bool false, .bool false, .int .i64 0, .int .i64 0, .slice none 0 0] 302 (0, 0)) :: blkP ar (.cells #[.bool true, .slice none 0 0] 185 (0, 0)) :: blkP fi (.cells #[.int .i64 z, .int .i64 0, .slice none 0 0] 234 (0, 0)) :: blkP w.heap.size (.cells #[.pointer none, .pointer none, .pointer none, .pointer none, .pointer none, .pointer none, .pointer none] 112 (0, 0)) :: l) wr) ∨ (∃ a0 a1, i = .int .i64 2 ∧ Sts W (blkP rb (.cells #[.pointer (some ⟨fi, 0, none⟩), .pointer (some ⟨a0, 0, none⟩), .pointer (some ⟨a1, 0, none⟩), .pointer none, .pointer (some ⟨ar, 0, none⟩), .pointer t, .pointer c] 112 (0, 0)) :: blkP a1 (.cells #[.bool true, .bool false, .bool false, .int .i64 0, .int .i64 0, .slice none 0 0] 302 (0, 0)) :: blkP a0 (.cells #[.bool true, .bool false, .bool false, .int .i64 0, .int .i64 0, .slice none 0 0] 302 (0, 0)) :: blkP ar (.cells #[.bool true, .slice none 0 0] 185 (0, 0)) :: blkP fi (.cells #[.int .i64 z, .int .i64 0, .slice none 0 0] 234 (0, 0)) :: blkP w.heap.size (.cells #[.pointer none, .pointer none, .pointer none, .pointer none, .pointer none, .pointer none, .pointer none] 112 (0, 0)) :: l) wr) ∨ (∃ a0 a1 a2, i = .int .i64 3 ∧ Sts W (blkP rb (.cells #[.pointer (some ⟨fi, 0, none⟩), .pointer (some ⟨a0, 0, none⟩), .pointer (some ⟨a1, 0, none⟩), .pointer (some ⟨a2, 0, none⟩), .pointer (some ⟨ar, 0, none⟩), .pointer t, .pointer c] 112 (0, 0)) :: blkP a2 (.cells #[.bool true, .bool false, .bool false, .int .i64 0, .int .i64 0, .slice none 0 0] 302 (0, 0)) :: blkP a1 (.cells #[.bool true, .bool false, .bool false, .int .i64 0, .int .i64 0, .slice none 0 0] 302 (0, 0)) :: blkP a0 (.cells #[.bool true, .bool false, .bool false, .int .i64 0, .int .i64 0, .slice none 0 0] 302 (0, 0)) :: blkP ar (.cells #[.bool true, .slice none 0 0] 185 (0, 0)) :: blkP fi (.cells #[.int .i64 z, .int .i64 0, .slice none 0 0] 234 (0, 0)) :: blkP w.heap.size (.cells #[.pointer none, .pointer none, .pointer none, .pointer none, .pointer none, .pointer none, .pointer none] 112 (0, 0)) :: l) wr)) (fun i _ => 3 - (intOf i).toNat)
  case atStart => exact Or.inl ⟨rfl, HB.out⟩
  case round =>
    clear HB
    rcases hrel with ⟨rfl, hS⟩ | ⟨a0, rfl, hS⟩ | ⟨a0, a1, rfl, hS⟩ | ⟨a0, a1, a2, rfl, hS⟩
    · have HS := hid hS
      clear hS
      go_wp2_with (first | (go_at_call 107; refine (cUnpNew (stabC (blkP_stable _ _) HLR.out) HS.out).mono ?_; rintro e w6 ⟨u, rfl, h⟩; have HU := hid h.swap; clear h) | (refine wpList_cellS HU.out (stabC (blkP_stable _ _) HLR.out) rfl (.tmp 21) (.tmp 19) 108 rfl 1 (.pointer (some ⟨u, 0, none⟩)) rfl rfl szUnp (show 1 < 7 by decide) rfl ?_; intro w7 h7; have H7 := hid h7; clear h7))
      go_roundw
      case rel => exact Or.inr (Or.inl ⟨u, rfl, H7.out⟩)
      case measure => (simp [intOf]; try omega)
    · have HS := hid hS
      clear hS
      go_wp2_with (first | (go_at_call 107; refine (cUnpNew (stabC (blkP_stable _ _) (stabC (blkP_stable _ _) HLR.out)) HS.out).mono ?_; rintro e w6 ⟨u, rfl, h⟩; have HU := hid h.swap; clear h) | (refine wpList_cellS HU.out (stabC (blkP_stable _ _) (stabC (blkP_stable _ _) HLR.out)) rfl (.tmp 21) (.tmp 19) 108 rfl 2 (.pointer (some ⟨u, 0, none⟩)) rfl rfl szUnp (show 2 < 7 by decide) rfl ?_; intro w7 h7; have H7 := hid h7; clear h7))
      go_roundw
      case rel => exact Or.inr (Or.inr (Or.inl ⟨a0, u, rfl, H7.out⟩))
      case measure => (simp [intOf]; try omega)
    · have HS := hid hS
      clear hS
      go_wp2_with (first | (go_at_call 107; refine (cUnpNew (stabC (blkP_stable _ _) (stabC (blkP_stable _ _) (stabC (blkP_stable _ _) HLR.out))) HS.out).mono ?_; rintro e w6 ⟨u, rfl, h⟩; have HU := hid h.swap; clear h) | (refine wpList_cellS HU.out (stabC (blkP_stable _ _) (stabC (blkP_stable _ _) (stabC (blkP_stable _ _) HLR.out))) rfl (.tmp 21) (.tmp 19) 108 rfl 3 (.pointer (some ⟨u, 0, none⟩)) rfl rfl szUnp (show 3 < 7 by decide) rfl ?_; intro w7 h7; have H7 := hid h7; clear h7))
      go_roundw
      case rel => exact Or.inr (Or.inr (Or.inr ⟨a0, a1, u, rfl, H7.out⟩))
      case measure => (simp [intOf]; try omega)
    · have HS := hid hS
      clear hS
      have HX := hid (HS.out.tail.perm (show (_ :: _ :: _ :: _ :: _ :: _ :: l).Perm (_ :: _ :: _ :: _ :: _ :: _ :: l) from List.perm_middle (l₁ := [_, _, _, _, _])))
      have HLX := hid (show ∀ B ∈ recL z fi ar a0 a1 a2 ++ l, Stable B from stabC (blkP_stable _ _) (stabC (blkP_stable _ _) (stabC (blkP_stable _ _) (stabC (blkP_stable _ _) (stabC (blkP_stable _ _) hl)))))
      have HLD := hid (ldRec HS.out)
      go_wp2_with (first | (refine wpList_ldS rfl (.tmp 7) 112 rfl rfl (.agg #[.pointer (some ⟨fi, 0, none⟩), .pointer (some ⟨a0, 0, none⟩), .pointer (some ⟨a1, 0, none⟩), .pointer (some ⟨a2, 0, none⟩), .pointer (some ⟨ar, 0, none⟩), .pointer t, .pointer c]) HLD.out ?_) | (refine wpList_aggS HX.out HLX.out rfl (.tmp 6) (.tmp 23) 112 rfl #[.pointer (some ⟨fi, 0, none⟩), .pointer (some ⟨a0, 0, none⟩), .pointer (some ⟨a1, 0, none⟩), .pointer (some ⟨a2, 0, none⟩), .pointer (some ⟨ar, 0, none⟩), .pointer t, .pointer c] rfl rfl sizeRec rfl rfl ?_; intro w8 h8; have H8 := hid h8; clear h8))
      exact post_cell1S H8.out Tryz.results39 rfl rfl (ldRec H8.out) ⟨fi, ar, a0, a1, a2, rfl, H8.out.tail⟩
end
end Go.Proofs.YtnklmadmenkdoaaGreat
