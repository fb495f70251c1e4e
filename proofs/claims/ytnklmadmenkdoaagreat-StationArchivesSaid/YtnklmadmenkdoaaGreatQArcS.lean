/- Arguments as the row reads them, opened: slices of bytes and of words. Arguments as the row reads them, opened: slices of anything, structs by value. Commands in a row: the list of what was taken; append of a command; the arguments opened. The archive: the model. Rows of structs: a copy into one, one more element, an append to one, zeros behind a part of one. Rows of structs in walks: copies and appends as steps. -/
import Derived.Test.YtnklmadmenkdoaaGreatProg
import Derived.Test.YtnklmadmenkdoaaGreatQSepc
import Derived.ChangeSlices
import Derived.WideShapes
import Derived.Carry
import Derived.OpenShut
import Derived.ProofKit
import Derived.Test.YtnklmadmenkdoaaGreatQSnrK
import Derived.Test.YtnklmadmenkdoaaGreatQSnrA
import Derived.BigQuiet
import Derived.Test.YtnklmadmenkdoaaGreatQScbM
import Derived.Test.YtnklmadmenkdoaaGreatQSdpTk
import Derived.Laws.CopyRow
import Derived.Lib.AppendZerosOnto
import Derived.Lib.Overlaps
import Derived.Laws.Externs
set_option linter.unusedVariables false
set_option linter.unusedSimpArgs false
namespace Go.Proofs.Num
open Go.RowKit Go.ChangeShapes
theorem wf8 {a : Int} (h : (Lit.int .u8 a).wf = true) : ∃ n : Nat, n < 256 ∧ a = n := by
  have h1 : IntKind.u8.min = 0 := rfl
  have h2 : IntKind.u8.max = 255 := rfl
  simp only [Lit.wf, Bool.and_eq_true, decide_eq_true_eq] at h
  exact ⟨a.toNat, by omega, by omega⟩
theorem spot_none {w : World} {a : Addr} {v : Value} (h : w.cell? a = some v) : a = ⟨a.block, a.off, none⟩ := by
  unfold World.cell? at h
  split at h
  · split at h
    · cases h
    · rename_i hs
      obtain ⟨b, o, s⟩ := a
      cases s with
      | none => rfl
      | some x => simp at hs
  · cases h
theorem cell_lt {w : World} {a : Addr} {v : Value} (h : w.cell? a = some v) : a.block < w.heap.size := by
  unfold World.cell? at h
  rcases Nat.lt_or_ge a.block w.heap.size with l | l
  · exact l
  · rw [Array.getElem?_eq_none l] at h; cases h
theorem add_plain (b o n : Nat) : (⟨b, o, none⟩ : Addr).add n = ⟨b, o + n, none⟩ := by
  unfold Addr.add
  split
  · rename_i h; subst h; rfl
  · rfl
/-- A slice of integers of one kind, as cells. -/
theorem open_rowC {H : Type} {enc : TypeId × Value → H} {P : Program} {w : World} {base : Nat} {spare : Nat → Bool} {held : Bool} {fu : Nat} {cs : List Value} {x : DataW H × List MemPlace} {t e : TypeId} {k : IntKind} (ht : P.underlying t = some (.slice e)) (he : P.underlying e = some (.int k)) (hc1 : P.cellsOf e = 1)
    (h : DataW.trod enc P w base spare held fu t cs = some x) : ∃ v, cs = [v] ∧ ∃ xs : List Int, Rd w v (xs.map (Value.int k)) ∧ ∀ x ∈ xs, (Lit.int k x).wf = true := by
  rcases DataW.trod_slice ht h with ⟨hv, _⟩ | ⟨a, vl, vc, elems, rest, n, _, hv, _, _, hlc, hcm, hlen, hel, _⟩
  · exact ⟨_, hv, [], Rd.nil _ _ _ (by unfold maxLen; omega), by simp⟩
  · refine ⟨_, hv, ?_⟩
    have each : ∀ j, j < vl → ∃ x : Int, (Lit.int k x).wf = true ∧ w.cell? (a.add j) = some (.int k x) := by
      intro j hj
      have hE := hel j hj
      rw [hc1, Nat.mul_one, List.getElem?_eq_getElem (by omega)] at hE
      obtain ⟨cs, hc, ht⟩ := Option.bind_eq_some_iff.1 hE
      obtain ⟨_, hl, hcell⟩ := World.cells?_some hc
      match cs, hl with
      | [c0], _ =>
        obtain ⟨m, e0, _, w0⟩ := DataW.trod_int he ht
        have := hcell 0 (by decide)
        rw [show (a.add j).add 0 = a.add j by simp [Addr.add]] at this
        simp at e0
        exact ⟨m, w0, by rw [this]; simp [e0]⟩
    rcases Nat.eq_zero_or_pos vl with rfl | hpos
    · exact ⟨[], Rd.nil _ _ _ hcm, by simp⟩
    · obtain ⟨s0, _, q0⟩ := each 0 hpos
      have q1 : w.cell? a = some (.int k s0) := by simpa [Addr.add] using q0
      have hb := cell_lt q1
      have ha := spot_none q1
      obtain ⟨b, o, sp⟩ := a
      simp only at ha hb
      injection ha with _ _ ha
      subst ha
      obtain ⟨f, hf⟩ := Classical.axiomOfChoice (fun j : Fin vl => each j.1 j.2)
      refine ⟨List.ofFn f, ⟨some ⟨b, o, none⟩, vc, by simp, by simpa using ⟨hlc, hcm⟩, fun j hj => ⟨b, o, rfl, hb, ?_⟩⟩, fun s hs => ?_⟩
      · simp at hj
        obtain ⟨_, e0⟩ := hf ⟨j, hj⟩
        rw [add_plain] at e0
        simpa using e0
      · obtain ⟨j, rfl⟩ := List.mem_ofFn.1 hs
        exact (hf j).1
theorem nats_of {k : IntKind} {m : Nat} : ∀ {xs : List Int}, (∀ x ∈ xs, ∃ n : Nat, n < m ∧ x = n) → ∃ l : List Nat, xs.map (Value.int k) = l.map (fun n => Value.int k (n : Nat)) ∧ ∀ x ∈ l, x < m
  | [], _ => ⟨[], rfl, by simp⟩
  | x :: xs, h => by
    obtain ⟨n, hn, rfl⟩ := h x (by simp)
    obtain ⟨l, h1, h2⟩ := nats_of (k := k) (xs := xs) (fun y hy => h y (by simp [hy]))
    exact ⟨n :: l, by simp [h1], by simpa [hn] using h2⟩
/-- An argument reads behind the call as it did before. -/
theorem below_trod {H : Type} {enc : TypeId × Value → H} {P : Program} {t : TypeId} (hl : laidOutB P = true) (hr : P.readableRec t = true) (hrow : t < P.types.size) {W W' : World} {v : Value} {d : DataW H} {ps : List MemPlace}
    (h : DataW.Trod enc P W 0 (fun _ => true) true t v d ps) (hb : Below W.heap.size W W') (hlt : ∀ x ∈ ps, x.block < W.heap.size) {sp : Nat → Bool} (hsp : ∀ x ∈ ps, sp x.block = true) :
    DataW.Trod enc P W' 0 sp true t v d ps :=
  WideElems.Trod_stays hl hr hrow h (fun x hx => hb.same (hlt x hx)) hsp
end Go.Proofs.Num
namespace Go.Proofs.Num
open Go.RowKit Go.ChangeShapes
/-- The slice v reads as the list S: each element lies in size cells, of which E speaks. -/
def SliceOf {α : Type} (w : World) (size : Nat) (E : World → List Value → α → Prop) (v : Value) (S : List α) : Prop :=
  ∃ a cap, v = .slice a S.length cap ∧ (S.length ≤ cap ∧ cap ≤ maxLen) ∧ ∀ j, (h : j < S.length) → ∃ b off cs, a = some ⟨b, off, none⟩ ∧ b < w.heap.size ∧ cs.length = size ∧
    (∀ i, (hi : i < cs.length) → w.cell? ⟨b, off + j * size + i, none⟩ = some cs[i]) ∧ E w cs S[j]
theorem SliceOf.below {α : Type} {w w' : World} {size : Nat} {E : World → List Value → α → Prop} {v : Value} {S : List α} (h : SliceOf w size E v S) (hE : ∀ cs s, E w cs s → E w' cs s) (k : Below w.heap.size w w') : SliceOf w' size E v S := by
  obtain ⟨a, cap, h1, h2, h3⟩ := h
  refine ⟨a, cap, h1, h2, fun j hj => ?_⟩
  obtain ⟨b, off, cs, g1, g2, g3, g4, g5⟩ := h3 j hj
  exact ⟨b, off, cs, g1, by have := k.size; omega, g3, fun i hi => by rw [k.cell g2]; exact g4 i hi, hE _ _ g5⟩
theorem SliceOf.nil {α : Type} (w : World) (size : Nat) (E : World → List Value → α → Prop) (a : Option Addr) (cap : Nat) (h : cap ≤ maxLen) : SliceOf w size E (.slice a 0 cap) ([] : List α) :=
  ⟨a, cap, rfl, ⟨Nat.zero_le _, h⟩, fun j hj => absurd hj (by simp)⟩
section
variable {H : Type} {enc : TypeId × Value → H} {P : Program} {w : World} {base : Nat} {spare : Nat → Bool} {held : Bool}
theorem open_sliceC {α : Type} {E : World → List Value → α → Prop} {fu : Nat} {cs : List Value} {x : DataW H × List MemPlace} {t e : TypeId} {size : Nat} (ht : P.underlying t = some (.slice e)) (hc : P.cellsOf e = size) (hpos0 : 0 < size)
    (hE : ∀ n cs x, DataW.trod enc P w base spare held n e cs = some x → cs.length = size → ∃ s, E w cs s)
    (h : DataW.trod enc P w base spare held fu t cs = some x) : ∃ v, cs = [v] ∧ ∃ S : List α, SliceOf w size E v S := by
  rcases DataW.trod_slice ht h with ⟨hv, _⟩ | ⟨a, vl, vc, elems, rest, n, _, hv, _, _, hlc, hcm, hlen, hel, _⟩
  · exact ⟨_, hv, [], SliceOf.nil _ _ _ _ _ (by unfold maxLen; omega)⟩
  · refine ⟨_, hv, ?_⟩
    have each : ∀ j, j < vl → ∃ s : α, ∃ cs : List Value, cs.length = size ∧ (∀ i, (hi : i < cs.length) → w.cell? ((a.add (j * size)).add i) = some cs[i]) ∧ E w cs s := by
      intro j hj
      have hE' := hel j hj
      rw [hc, List.getElem?_eq_getElem (by omega)] at hE'
      obtain ⟨cs, hc2, ht2⟩ := Option.bind_eq_some_iff.1 hE'
      obtain ⟨_, hl, hcell⟩ := World.cells?_some hc2
      obtain ⟨s, hs⟩ := hE _ _ _ ht2 hl
      refine ⟨s, cs, hl, fun i hi => ?_, hs⟩
      have := hcell i (by omega)
      rw [this]
      simp [List.getElem?_eq_getElem hi]
    rcases Nat.eq_zero_or_pos vl with rfl | hpos
    · exact ⟨[], SliceOf.nil _ _ _ _ _ hcm⟩
    · obtain ⟨s0, cs0, l0, q0, _⟩ := each 0 hpos
      have q1 := q0 0 (by omega)
      have e0 : (a.add (0 * size)).add 0 = a := by simp [Addr.add]
      rw [e0] at q1
      have hb := cell_lt q1
      have ha := spot_none q1
      obtain ⟨b, o, sp⟩ := a
      simp only at ha hb
      injection ha with _ _ ha
      subst ha
      obtain ⟨f, hf⟩ := Classical.axiomOfChoice (fun j : Fin vl => each j.1 j.2)
      refine ⟨List.ofFn f, some ⟨b, o, none⟩, vc, by simp, by simpa using ⟨hlc, hcm⟩, fun j hj => ?_⟩
      simp at hj
      obtain ⟨cs, hl, hcell, hs⟩ := hf ⟨j, hj⟩
      refine ⟨b, o, cs, rfl, hb, hl, fun i hi => ?_, by simpa using hs⟩
      have := hcell i hi
      rw [add_plain, add_plain] at this
      exact this
end
end Go.Proofs.Num
namespace Cmd
/-- An order that was taken, as it lies in memory. -/
structure Ord where
  sv : Nat
  aa : Option Go.Addr
  ca : Nat
  args : List Int
  ad : Option Go.Addr
  cd : Nat
  data : List Nat
end Cmd
namespace Go.Proofs.YtnklmadmenkdoaaGreat
open Go.RowKit Go.Proofs.Num Go.ChangeShapes
theorem Sts.rowNilS {W w : World} {l : List HProp} (e : TypeId) (s : Nat) (h : Sts W l w) : Sts W (rowP e s (.slice none 0 0) 0 [] :: l) w := by
  obtain ⟨F, a, b, c⟩ := h
  exact ⟨F, ⟨fun _ => False, F, ⟨⟨by simp, Or.inl ⟨rfl, rfl⟩⟩, fun k => by simp [Value.ownBlock]⟩, a, fun _ h => h.elim, fun k => by simp⟩, b, c⟩
/-- An order as an argument. -/
structure Odr where
  s : Int
  aa : Option Addr
  ca : Nat
  args : List Int
  ad : Option Addr
  cd : Nat
  data : List Nat
section
variable {H : Type} {enc : TypeId × Value → H} {w : World} {base : Nat} {spare : Nat → Bool} {held : Bool}
set_option maxRecDepth 100000 in
theorem open_nilok {fu : Nat} {cs : List Value} {x : DataW H × List MemPlace} {t e : TypeId} (ht : Tryz.prog.underlying t = some (.slice e)) (h : DataW.trod enc Tryz.prog w base spare held fu t cs = some x) : ∀ a n c, cs = [.slice a n c] → a = none → c = 0 := by
  intro a n c hc ha
  rcases DataW.trod_slice ht h with ⟨hv, _⟩ | ⟨a', vl, vc, elems, rest, n', _, hv, _⟩
  · rw [hv] at hc; injection hc with hc; injection hc with h1 h2 h3; exact h3.symm
  · rw [hv] at hc; injection hc with hc; injection hc with h1 h2 h3; rw [ha] at h1; cases h1
end
end Go.Proofs.YtnklmadmenkdoaaGreat
namespace Arc
/-- An entry: extended count, application process, count, time, data. -/
structure Ent where
  c : Int
  a : Nat
  n : Nat
  t : Nat
  d : List Nat
/-- Distance of two counts of 14 bits. -/
def dist (x y : Nat) : Nat := (y + 16384 - x) % 16384
/-- The extended count. -/
def ext (g n : Nat) : Int := if dist (g % 16384) n ≤ 8192 then (g : Int) + (dist (g % 16384) n : Int) else (g : Int) - (dist n (g % 16384) : Int)
/-- The index behind the last entry below x among the first k. -/
def pos (l : List Ent) (x : Int) : Nat → Nat
  | 0 => 0
  | k + 1 => if x ≤ (l.getD k ⟨0, 0, 0, 0, []⟩).c then pos l x k else k + 1
theorem pos_le (l : List Ent) (x : Int) : ∀ k, pos l x k ≤ k
  | 0 => Nat.le_refl _
  | k + 1 => by
    unfold pos
    split
    · exact Nat.le_succ_of_le (pos_le l x k)
    · exact Nat.le_refl _
theorem pos_last (l : List Ent) (x : Int) (k : Nat) (h : pos l x k = k) (h0 : 0 < k) : (l.getD (k - 1) ⟨0, 0, 0, 0, []⟩).c < x := by
  cases k with
  | zero => omega
  | succ k =>
    unfold pos at h
    split at h
    · have := pos_le l x k; omega
    · rename_i hx
      rw [Nat.add_sub_cancel]
      omega
/-- The greatest extended count. -/
def top (l : List Ent) : Int := (l.getD (l.length - 1) ⟨0, 0, 0, 0, []⟩).c
/-- Whether an entry with the count x is there at k. -/
def has (l : List Ent) (k : Nat) (x : Int) : Bool := decide (k < l.length) && decide ((l.getD k ⟨0, 0, 0, 0, []⟩).c = x)
def ins {α : Type} (l : List α) (k : Nat) (x : α) : List α := l.take k ++ x :: l.drop k
theorem ins_len {α : Type} (l : List α) (k : Nat) (x : α) : (ins l k x).length = l.length + 1 := by
  simp [ins]; omega
theorem mem_ins {α : Type} {l : List α} {k : Nat} {x y : α} (h : y ∈ ins l k x) : y = x ∨ y ∈ l := by
  simp only [ins, List.mem_append, List.mem_cons] at h
  rcases h with h | h | h
  · exact .inr (List.mem_of_mem_take h)
  · exact .inl h
  · exact .inr (List.mem_of_mem_drop h)
/-- A packet added to a process. -/
def addL (l : List Ent) (a n t : Nat) (d : List Nat) : List Ent :=
  if has l (pos l (ext (top l).toNat n) l.length) (ext (top l).toNat n) = true then l else ins l (pos l (ext (top l).toNat n) l.length) ⟨ext (top l).toNat n, a, n, t, d⟩
abbrev Arch := List (Nat × List Ent)
/-- The first process from a on. -/
def find (a : Nat) : Arch → Nat
  | [] => 0
  | p :: m => if a ≤ p.1 then 0 else find a m + 1
theorem find_le (a : Nat) : ∀ m : Arch, find a m ≤ m.length
  | [] => Nat.le_refl _
  | p :: m => by
    unfold find
    split
    · exact Nat.zero_le _
    · exact Nat.succ_le_succ (find_le a m)
def isA (a : Nat) (m : Arch) (k : Nat) : Bool := match m[k]? with | some p => p.1 == a | none => false
/-- A packet added. -/
def add (m : Arch) (a n t : Nat) (d : List Nat) : Arch :=
  if isA a m (find a m) = true then m.set (find a m) (a, addL (m.getD (find a m) (0, [])).2 a n t d) else ins m (find a m) (a, [⟨n, a, n, t, d⟩])
/-- An archive after at most N packets. -/
structure okL (N : Nat) (l : List Ent) : Prop where
  ne : 0 < l.length
  le : l.length ≤ N
  top0 : 0 ≤ top l
  all : ∀ e ∈ l, -16384 * (N : Int) ≤ e.c ∧ e.c ≤ 16384 * (N : Int) ∧ e.n < 16384 ∧ e.t < 1099511627776 ∧ e.d.length ≤ 1000 ∧ (∀ x ∈ e.d, x < 256) ∧ e.a < 2048
def ok (N : Nat) (m : Arch) : Prop := m.length ≤ N ∧ ∀ p ∈ m, p.1 < 2048 ∧ okL N p.2
theorem okL.mono {N : Nat} {l : List Ent} (h : okL N l) : okL (N + 1) l := ⟨h.ne, Nat.le_succ_of_le h.le, h.top0, fun e he => by obtain ⟨h1, h2, h3⟩ := h.all e he; exact ⟨by omega, by omega, h3⟩⟩
theorem top_mem {l : List Ent} (h : 0 < l.length) : ∃ e ∈ l, top l = e.c := by
  refine ⟨l[l.length - 1], List.getElem_mem _, ?_⟩
  unfold top
  rw [List.getD_eq_getElem?_getD, List.getElem?_eq_getElem (by omega)]
  rfl
theorem dist_lt (x y : Nat) : dist x y < 16384 := Nat.mod_lt _ (by decide)
theorem ext_bd (g n N : Nat) (hg : (g : Int) ≤ 16384 * (N : Int)) : -16384 * ((N + 1 : Nat) : Int) ≤ ext g n ∧ ext g n ≤ 16384 * ((N + 1 : Nat) : Int) := by
  have h1 := dist_lt (g % 16384) n
  have h2 := dist_lt n (g % 16384)
  unfold ext
  split <;> omega
theorem addL_ok {N : Nat} {l : List Ent} (h : okL N l) (a n t : Nat) (d : List Nat) (ha : a < 2048) (hn : n < 16384) (ht : t < 1099511627776) (hd : d.length ≤ 1000) (hb : ∀ x ∈ d, x < 256) : okL (N + 1) (addL l a n t d) := by
  unfold addL
  split
  · exact h.mono
  · obtain ⟨e0, he0, hte⟩ := top_mem h.ne
    have htb := h.all e0 he0
    have ht0 := h.top0
    have hg : (((top l).toNat : Nat) : Int) ≤ 16384 * (N : Int) := by omega
    have hbd := ext_bd (top l).toNat n N hg
    obtain ⟨X, hX⟩ : ∃ X, X = ext (top l).toNat n := ⟨_, rfl⟩
    rw [← hX] at hbd ⊢
    obtain ⟨k, hk⟩ : ∃ k, k = pos l X l.length := ⟨_, rfl⟩
    have hkl : k ≤ l.length := by rw [hk]; exact pos_le _ _ _
    rw [← hk]
    refine ⟨by rw [ins_len]; omega, by rw [ins_len]; have := h.le; omega, ?_, ?_⟩
    · unfold top
      rw [ins_len, Nat.add_sub_cancel, List.getD_eq_getElem?_getD]
      by_cases hkk : k = l.length
      · have hlast := pos_last l X l.length (by rw [← hk]; exact hkk) h.ne
        have : (ins l k (⟨X, a, n, t, d⟩ : Ent))[l.length]? = some ⟨X, a, n, t, d⟩ := by
          unfold ins
          rw [List.getElem?_append_right (by simp [hkk]), hkk]
          simp
        rw [this]
        show 0 ≤ X
        have h2 : top l < X := hlast
        omega
      · have : (ins l k (⟨X, a, n, t, d⟩ : Ent))[l.length]? = l[l.length - 1]? := by
          unfold ins
          rw [List.getElem?_append_right (by simp; omega)]
          have hlt : (l.take k).length = k := by simp [hkl]
          rw [hlt, show l.length - k = (l.length - 1 - k) + 1 by omega, List.getElem?_cons_succ, List.getElem?_drop]
          congr 1
          omega
        rw [this]
        have h2 := h.top0
        unfold top at h2
        rw [List.getD_eq_getElem?_getD] at h2
        exact h2
    · intro e he
      rcases mem_ins he with rfl | he
      · exact ⟨hbd.1, hbd.2, hn, ht, hd, hb, ha⟩
      · exact (h.mono).all e he
theorem add_ok {N : Nat} {m : Arch} (h : ok N m) (a n t : Nat) (d : List Nat) (ha : a < 2048) (hn : n < 16384) (ht : t < 1099511627776) (hd : d.length ≤ 1000) (hb : ∀ x ∈ d, x < 256) : ok (N + 1) (add m a n t d) := by
  unfold add
  split
  · rename_i hi
    refine ⟨by rw [List.length_set]; have := h.1; omega, fun p hp => ?_⟩
    rcases List.mem_or_eq_of_mem_set hp with hp | rfl
    · exact ⟨(h.2 p hp).1, (h.2 p hp).2.mono⟩
    · refine ⟨ha, addL_ok ?_ a n t d ha hn ht hd hb⟩
      unfold isA at hi
      cases hq : m[find a m]? with
      | none => rw [hq] at hi; cases hi
      | some q =>
        rw [List.getD_eq_getElem?_getD, hq]
        exact (h.2 q (List.mem_of_getElem? hq)).2
  · refine ⟨by rw [ins_len]; have := h.1; omega, fun p hp => ?_⟩
    rcases mem_ins hp with rfl | hp
    · refine ⟨ha, by simp, by simp, by simp [top], ?_⟩
      intro e he
      simp only [List.mem_singleton] at he
      subst he
      exact ⟨by simp; omega, by simp; omega, hn, ht, hd, hb, ha⟩
    · exact ⟨(h.2 p hp).1, (h.2 p hp).2.mono⟩
end Arc
namespace Go
variable {P : Program}
theorem run_copy_rowK (w : World) (dT sT ty elem : TypeId) (k : Nat) (g o dLen dCap : Nat) (a : Addr) (sLen sCap : Nat) (cur : Array Value) (t : TypeId) (cs : List Value) (m : Nat)
    (hu : P.underlying dT = some (.slice elem)) (hs : (P.info? elem).map (·.size) = some k)
    (hg : w.heap[g]? = some (.cells cur t (0, 0))) (hm : m = Nat.min sLen dLen) (hn : cs.length = m * k)
    (hsrc : ∀ j v, cs[j]? = some v → w.cell? (a.add j) = some v) (hfit : o + cs.length ≤ cur.size) (h1 : ∀ v ∈ cs, v.oneCell' = true) :
    (Builtin.copy_ #[dT, sT] ty #[.slice (some ⟨g, o, none⟩) dLen dCap, .slice (some a) sLen sCap]).run P w =
      .ok (goInt m) (w.setRow g (cur.toList.take o ++ cs ++ cur.toList.drop (o + cs.length)).toArray) := by
  have hl := run_loadCells_list (P := P) w a cs hsrc
  have hst := run_storeCells_at P g o t cs 0 cur w hg (by simpa using hfit) h1
  cases hq : P.info? elem with
  | none => simp [hq] at hs
  | some i =>
    have hi : i.size = k := by simpa [hq] using hs
    simp [Builtin.copy_, run_underlying hu, Builtin.lenOf, Builtin.firstCells, sizeOf, typeInfo, hq, hi, ← hm, ← hn, hl, hst]
end Go
namespace Go.Proofs.Num
open Go.RowKit
theorem cur_take {α : Type} (cur cs : List α) (o N : Nat) (h : o + cs.length ≤ N) (hN : N ≤ cur.length) : (cur.take o ++ cs ++ cur.drop (o + cs.length)).take N = (cur.take N).take o ++ cs ++ (cur.take N).drop (o + cs.length) := by
  have hA : (cur.take o).length = o := by simp; omega
  rw [List.take_append, List.take_of_length_le (by rw [List.length_append, hA]; exact h), List.length_append, hA, List.take_take, Nat.min_eq_left (by omega), List.drop_take]
variable {W w : World} {l : List HProp}
theorem copy_row {P : Program} {S T : TypeId} {s g n cap : Nat} {xs : List Value} (hu : P.underlying S = some (.slice T)) (hsz : (P.info? T).map (·.size) = some s) (hl : ∀ B ∈ l, Stable B) (h : Sts W (rowP T s (.slice (some ⟨g, 0, none⟩) n cap) n xs :: l) w)
    (ty : TypeId) (o m dl dc sl sc : Nat) (a : Addr) (cs : List Value) (hm : m = Nat.min sl dl) (hcs : cs.length = m * s) (hsrc : ∀ j v, cs[j]? = some v → w.cell? (a.add j) = some v) (h1 : ∀ v ∈ cs, v.oneCell' = true) (ho : o + m ≤ n) :
    ∃ w', (Builtin.copy_ #[S, S] ty #[.slice (some ⟨g, o * s, none⟩) dl dc, .slice (some a) sl sc]).run P w = .ok (goInt m) w' ∧ Sts W (rowP T s (.slice (some ⟨g, 0, none⟩) n cap) n (xs.take (o * s) ++ cs ++ xs.drop (o * s + cs.length)) :: l) w' := by
  have hown := Sts.rowOwnS' h
  obtain ⟨hlen, hor⟩ := hown
  rcases hor with ⟨hv, _⟩ | ⟨g', cap', cur, hv, hb, hg, hnc, hcm, hsize, htake⟩
  · cases hv
  injection hv with i1 i2 i3
  injection i1 with i1
  injection i1 with i1
  subst i1; subst i3
  have hfit : o * s + cs.length ≤ n * s := by rw [hcs, ← Nat.add_mul]; exact Nat.mul_le_mul_right _ ho
  have hfc : n * s ≤ cur.size := by rw [hsize]; exact Nat.mul_le_mul_right _ hnc
  have hr := run_copy_rowK (P := P) w S S ty T s g (o * s) dl dc a sl sc cur T cs m hu hsz hg hm hcs hsrc (by omega) h1
  refine ⟨_, hr, ?_⟩
  refine Sts.grownS' hl h (w1 := w.setRow g _) ⟨rfl, rfl, rfl, by simp, fun k _ hk => setRow_other w g k _ (fun e => hk (by simp [Value.ownBlock, e]))⟩ ⟨?_, .inr ⟨g, cap, _, rfl, Nat.zero_le _, setRow_heap w g cur _ T _ hg, hnc, hcm, ?_, ?_⟩⟩ (fun k hk => Or.inl hk)
  · rw [List.length_append, List.length_append, List.length_take, List.length_drop, hlen]; omega
  · rw [← hsize]
    simp only [List.size_toArray, List.length_append, List.length_take, List.length_drop, Array.length_toList]
    omega
  · rw [← htake]
    exact cur_take cur.toList cs (o * s) (n * s) hfit (by simpa using hfc)
theorem Sts.rowMore {T : TypeId} {s g n cap : Nat} {xs : List Value} (h : Sts W (rowP T s (.slice (some ⟨g, 0, none⟩) n cap) n xs :: l) w) (hn : n + 1 ≤ cap) : ∃ ys, ys.length = s ∧ Sts W (rowP T s (.slice (some ⟨g, 0, none⟩) (n + 1) cap) (n + 1) (xs ++ ys) :: l) w := by
  obtain ⟨F, ⟨F1, F2, ⟨⟨hlen, hor⟩, hF1⟩, r⟩, hb, hnn⟩ := h
  rcases hor with ⟨hv, _⟩ | ⟨g', cap', cur, hv, hbg, hg, hnc, hcm, hsize, htake⟩
  · cases hv
  injection hv with i1 i2 i3
  injection i1 with i1
  injection i1 with i1
  subst i1; subst i3
  have hle : (n + 1) * s ≤ cur.size := by rw [hsize]; exact Nat.mul_le_mul_right _ hn
  have hms : (n + 1) * s = n * s + s := by rw [Nat.add_mul, Nat.one_mul]
  refine ⟨(cur.toList.drop (n * s)).take s, ?_, F, ⟨F1, F2, ⟨⟨?_, Or.inr ⟨g, cap, cur, rfl, hbg, hg, hn, hcm, hsize, ?_⟩⟩, by simpa [Value.ownBlock] using hF1⟩, r⟩, hb, hnn⟩
  · rw [List.length_take, List.length_drop, Array.length_toList]; omega
  · rw [List.length_append, hlen, List.length_take, List.length_drop, Array.length_toList]; omega
  · rw [hms, List.take_add, htake]
theorem appZ_view {P : Program} {S tn T : TypeId} {s : Nat} {i : TypeInfo} {z : Value} {kn : IntKind} (ht : P.underlying S = some (.slice T)) (htn : P.underlying tn = some (.int kn)) (hi : P.info? T = some i) (hz : i.zero = some z) (hs : i.size = s) (hzs : z.cells.size = s) (hs0 : 0 < s) (hby : i.bytes ≤ 100)
    (hl : ∀ B ∈ l, Stable B) {g n cap : Nat} {xs : List Value} (h : Sts W (rowP T s (.slice (some ⟨g, 0, none⟩) n cap) n xs :: l) w) (ty : TypeId) (kq : IntKind) (k zn : Nat) (hk : k ≤ n) (hzn : k + zn = n + 1) (hcap : cap < n + 1) (hn : n ≤ 1000000) :
    ∃ g2 c2 zs w', (Builtin.append_ #[S, tn] ty #[.slice (some ⟨g, 0, none⟩) k cap, .int kq (zn : Int)]).run P w = .ok (.slice (some ⟨g2, 0, none⟩) (n + 1) c2) w' ∧ n + 1 ≤ c2 ∧ zs.length = zn * s ∧ Sts W (rowP T s (.slice (some ⟨g2, 0, none⟩) (n + 1) c2) (n + 1) (xs.take (k * s) ++ zs) :: rowP T s (.slice (some ⟨g, 0, none⟩) n cap) n xs :: l) w' := by
  have hown := Sts.rowOwnS' h
  have hlen := hown.1
  have hks : k * s ≤ xs.length := by rw [hlen]; exact Nat.mul_le_mul_right _ hk
  have hcells : ∀ j v, (xs.take (k * s))[j]? = some v → w.drew.cell? ((⟨g, 0, none⟩ : Addr).add j) = some v := by
    intro j v hj
    have hjl := (List.getElem?_eq_some_iff.1 hj).1
    rw [List.length_take] at hjl
    rw [List.getElem?_take_of_lt (by omega)] at hj
    exact hown.cells (g := g) rfl j v hj
  have hfo := run_firstCells_some (P := P) w.drew i.size k ⟨g, 0, none⟩ k cap (xs.take (k * s)) (by rw [List.length_take, hs]; omega) hcells
  have hb1 : (n + 1) * i.bytes ≤ (n + 1) * 100 := Nat.mul_le_mul_left _ hby
  have hb2 : zn * i.bytes ≤ zn * 100 := Nat.mul_le_mul_left _ hby
  have hr := Lib.run_append_grow_zeros (P := P) w S tn ty T i z kq kn ht htn hi hz (some ⟨g, 0, none⟩) k cap (xs.take (k * s)) hfo zn (by omega) (by rw [hs]; exact hs0) (by omega) (by omega) (by omega) (growslice_fits (by omega) (by rw [hzn]; omega))
  rw [hzn] at hr
  have hge := grownCap_ge w (n + 1) cap T
  have hmx := grownCap_le_maxLen w (n + 1) cap T (by unfold maxLen; omega)
  obtain ⟨c2, hc2⟩ : ∃ c2, c2 = grownCap w (n + 1) cap T := ⟨_, rfl⟩
  rw [← hc2] at hr hge hmx
  have hzl : (Builtin.zeroCells z.cells zn).toList.length = zn * s := by rw [Array.length_toList, size_zeroCells, hzs]
  have hzl2 : (Builtin.zeroCells z.cells (c2 - (n + 1))).size = (c2 - (n + 1)) * s := by rw [size_zeroCells, hzs]
  have htl : (xs.take (k * s)).length = k * s := by rw [List.length_take]; omega
  have hms : (n + 1) * s = k * s + zn * s := by rw [← hzn, Nat.add_mul]
  have hcs : c2 * s = (n + 1) * s + (c2 - (n + 1)) * s := by rw [← Nat.add_mul]; congr 1; omega
  refine ⟨w.heap.size, c2, (Builtin.zeroCells z.cells zn).toList, _, hr, hge, hzl, ?_⟩
  have h2 := Sts.alloc (stabC (rowP_stable _ _ _ _ _) hl) (Sts.drew (stabC (rowP_stable _ _ _ _ _) hl) h) (.cells ((xs.take (k * s)).toArray ++ Builtin.zeroCells z.cells zn ++ Builtin.zeroCells z.cells (c2 - (n + 1))) T)
  refine h2.weaken fun F hF => ?_
  refine ⟨⟨by rw [List.length_append, htl, hzl, hms], Or.inr ⟨w.heap.size, c2, _, rfl, Nat.zero_le _, hF.1, hge, hmx, ?_, ?_⟩⟩, fun j => by rw [hF.2 j]; simp [Value.ownBlock]; exact eq_comm⟩
  · rw [Array.size_append, Array.size_append, hzl2, List.size_toArray, htl, size_zeroCells, hzs, hcs, hms]
  · simp only [Array.toList_append]
    rw [show (n + 1) * s = (xs.take (k * s) ++ (Builtin.zeroCells z.cells zn).toList).length by rw [List.length_append, htl, hzl, hms], List.take_left]
end Go.Proofs.Num
namespace Go.Proofs.YtnklmadmenkdoaaGreat
open Go.RowKit Go.Proofs.Num
variable {W w : World} {l : List HProp}
theorem wpList_copyR {S T : TypeId} {s g n cap : Nat} {xs : List Value} {ops : Array Oper} {rest : List Oper} {o : Oper} {a : Act} {Q : Exit → Act → World → Prop} (hu : Tryz.prog.underlying S = some (.slice T)) (hsz : (Tryz.prog.info? T).map (·.size) = some s) (hl : ∀ B ∈ l, Stable B) (h : Sts W (rowP T s (.slice (some ⟨g, 0, none⟩) n cap) n xs :: l) w)
    (hgd : o.guard = none) (d x : Operand) (ho : o.op = .call { callee := .builtin .copy, args := #[d, x], argTypes := #[S, S] }) (f m dl dc sl sc : Nat) (ad : Addr) (cs : List Value) (hd : a.eval d = .slice (some ⟨g, f * s, none⟩) dl dc) (hx : a.eval x = .slice (some ad) sl sc)
    (hm : m = Nat.min sl dl) (hcs : cs.length = m * s) (hsrc : ∀ j v, cs[j]? = some v → w.cell? (ad.add j) = some v) (h1 : ∀ v ∈ cs, v.oneCell' = true) (hf : f + m ≤ n)
    (hk : ∀ w', Sts W (rowP T s (.slice (some ⟨g, 0, none⟩) n cap) n (xs.take (f * s) ++ cs ++ xs.drop (f * s + cs.length)) :: l) w' → wpList Tryz.prog ops Q rest (a.put o.dst (goInt m)) w') : wpList Tryz.prog ops Q (o :: rest) a w := by
  refine wpList_plain hgd fun K hK => ?_
  obtain ⟨w', hr, hS⟩ := copy_row hu hsz hl h o.type f m dl dc sl sc ad cs hm hcs hsrc h1 hf
  unfold Oper.wp
  simp [execOp, ho, resolve, invoke, builtin, hd, hx, hr, Result.andThen]
  exact hK _ _ (hk w' hS)
theorem eff_copyR {S T : TypeId} {s g n cap : Nat} {xs : List Value} {L : Prop} {o : Oper} {a : Act} {D : WP} {K : Act → WP → WP → Prop} (hu : Tryz.prog.underlying S = some (.slice T)) (hsz : (Tryz.prog.info? T).map (·.size) = some s) (hl : ∀ B ∈ l, Stable B) (h : Sts W (rowP T s (.slice (some ⟨g, 0, none⟩) n cap) n xs :: l) w)
    (d x : Operand) (ho : o.op = .call { callee := .builtin .copy, args := #[d, x], argTypes := #[S, S] }) (f m dl dc sl sc : Nat) (ad : Addr) (cs : List Value) (hd : a.eval d = .slice (some ⟨g, f * s, none⟩) dl dc) (hx : a.eval x = .slice (some ad) sl sc)
    (hm : m = Nat.min sl dl) (hcs : cs.length = m * s) (hsrc : ∀ j v, cs[j]? = some v → w.cell? (ad.add j) = some v) (h1 : ∀ v ∈ cs, v.oneCell' = true) (hf : f + m ≤ n)
    (hD : ∀ z, Sts W (rowP T s (.slice (some ⟨g, 0, none⟩) n cap) n (xs.take (f * s) ++ cs ++ xs.drop (f * s + cs.length)) :: l) z → D z)
    (hk : K (a.put o.dst (goInt m)) D (fun z => Sts W (rowP T s (.slice (some ⟨g, 0, none⟩) n cap) n (xs.take (f * s) ++ cs ++ xs.drop (f * s + cs.length)) :: l) z)) : effUpon Tryz.prog L o.dst a D K ((execOp a.eval o).run Tryz.prog w) := by
  obtain ⟨w', hr, hS⟩ := copy_row hu hsz hl h o.type f m dl dc sl sc ad cs hm hcs hsrc h1 hf
  have hr2 : (execOp a.eval o).run Tryz.prog w = .ok (.value (goInt m)) w' := by
    simp [execOp, ho, resolve, invoke, builtin, hd, hx, hr, Result.andThen]
  exact eff_value D _ hr2 hS hD (fun _ h => h) hk
theorem wpList_appV {S tn T : TypeId} {s by' : Nat} {z : Value} {kn : IntKind} {ops : Array Oper} {rest : List Oper} {o : Oper} {a : Act} {Q : Exit → Act → World → Prop} (hu : Tryz.prog.underlying S = some (.slice T)) (htn : Tryz.prog.underlying tn = some (.int kn)) (hinfo : (Tryz.prog.info? T).map (fun i => (i.zero, i.size, i.bytes)) = some (some z, s, by')) (hzs : z.cells.size = s) (hs0 : 0 < s) (hby : by' ≤ 100) (hgd : o.guard = none) (sx x : Operand)
    (ho : o.op = .call { callee := .builtin .append, args := #[sx, x], argTypes := #[S, tn] }) {n g cap : Nat} {xs : List Value} (hS : Sts W (rowP T s (.slice (some ⟨g, 0, none⟩) n cap) n xs :: l) w) (hL : ∀ B ∈ l, Stable B) (k zn : Nat)
    (hs : a.eval sx = .slice (some ⟨g, 0, none⟩) k cap) (hx : a.eval x = .int .i64 (zn : Int)) (hk : k ≤ n) (hzn : k + zn = n + 1) (hcap : cap < n + 1) (hn : n ≤ 1000000)
    (h : ∀ g2 c2 zs w', n + 1 ≤ c2 → zs.length = zn * s → Sts W (rowP T s (.slice (some ⟨g2, 0, none⟩) (n + 1) c2) (n + 1) (xs.take (k * s) ++ zs) :: rowP T s (.slice (some ⟨g, 0, none⟩) n cap) n xs :: l) w' → wpList Tryz.prog ops Q rest (a.put o.dst (.slice (some ⟨g2, 0, none⟩) (n + 1) c2)) w') : wpList Tryz.prog ops Q (o :: rest) a w := by
  refine wpList_plain hgd fun K hK => ?_
  obtain ⟨i0, hi, hz0, hz1, hz2⟩ := info_parts hinfo
  obtain ⟨g2, c2, zs, w', hr, q1, q2, q3⟩ := appZ_view (P := Tryz.prog) hu htn hi hz0 hz1 hzs hs0 (by rw [hz2]; exact hby) hL hS o.type .i64 k zn hk hzn hcap hn
  unfold Oper.wp
  simp [execOp, ho, resolve, invoke, builtin, hs, hx, hr, Result.andThen]
  exact hK _ _ (h g2 c2 zs w' q1 q2 q3)
end Go.Proofs.YtnklmadmenkdoaaGreat
