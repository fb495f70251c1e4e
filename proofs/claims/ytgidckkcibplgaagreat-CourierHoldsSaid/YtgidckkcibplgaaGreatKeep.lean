/- Small facts on machine integers, in the walk's own spelling. No program in sight. Rows of cells in memory: what they hold, and what a store leaves. No program in sight. What a call leaves as it was: all blocks but those of a footprint. Values that own rows of cells, in worlds that keep them. No program in sight. -/
import Derived.WalkKit
set_option linter.unusedVariables false
set_option linter.unusedSimpArgs false
namespace Go.Proofs.Num
open Go.RowKit
theorem ret_int {k : IntKind} {a b : Int} (h : a = b) : Ending.returned (.int k a) = .returned (.int k b) := by rw [h]
theorem ret_bool {a b : Bool} (h : a = b) : Ending.returned (.bool a) = .returned (.bool b) := by rw [h]
theorem val_int {k : IntKind} {a b : Int} (h : a = b) : Value.int k a = .int k b := by rw [h]
theorem ret_two {k l : IntKind} {a b c d : Int} (h : a = b) (g : c = d) : Ending.returned (.tuple #[.int k a, .int l c]) = .returned (.tuple #[.int k b, .int l d]) := by rw [h, g]
theorem hid {p : Prop} (h : p) : Hid p := h
theorem w64 {n : Int} (h0 : 0 ≤ n) (h : n < 9223372036854775808) : wrap64 n = n := by unfold wrap64; omega
theorem w64n (n : Nat) (h : n < 9223372036854775808) : wrap64 (n : Int) = n := w64 (by omega) (by omega)
theorem i64w (n : Nat) (h : n < 9223372036854775808) : IntKind.i64.wrap (n : Int) = n := by rw [IntKind.wrap_i64]; omega
theorem tm2 (x p : Nat) : ((x : Int) / 2 ^ p).tmod 2 = ((x / 2 ^ p % 2 : Nat) : Int) := by
  rw [Int.tmod_eq_emod_of_nonneg (Int.ediv_nonneg (by omega) (by exact Int.le_of_lt (Int.pow_pos (by decide))))]
  simp
theorem bit_cast (x k : Nat) : (x : Int) / 2 ^ k % 2 = ((x / 2 ^ k % 2 : Nat) : Int) := by simp
theorem i64_of (a : Nat) (ha : a < 9223372036854775808) : (BitVec.ofInt 64 (a : Int)).toNat = a := ofInt_u64 a (by omega)
theorem i64_xor (a b : Nat) (ha : a < 9223372036854775808) (hb : b < 9223372036854775808) : bits .xor .i64 (a : Int) (b : Int) = ((a ^^^ b : Nat) : Int) := by
  have hx : a ^^^ b < 9223372036854775808 := by
    have : a ^^^ b < 2 ^ 63 := Nat.xor_lt_two_pow (by omega) (by omega)
    omega
  show IntKind.i64.wrap ((BitVec.ofInt 64 (a : Int) ^^^ BitVec.ofInt 64 (b : Int)).toNat : Int) = _
  rw [BitVec.toNat_xor, i64_of a ha, i64_of b hb]
  exact i64w _ hx
theorem i64_or (a b : Nat) (ha : a < 9223372036854775808) (hb : b < 9223372036854775808) : bits .or .i64 (a : Int) (b : Int) = ((a ||| b : Nat) : Int) := by
  have hx : a ||| b < 9223372036854775808 := by
    have : a ||| b < 2 ^ 63 := Nat.or_lt_two_pow (by omega) (by omega)
    omega
  show IntKind.i64.wrap ((BitVec.ofInt 64 (a : Int) ||| BitVec.ofInt 64 (b : Int)).toNat : Int) = _
  rw [BitVec.toNat_or, i64_of a ha, i64_of b hb]
  exact i64w _ hx
theorem i64_and (a b : Nat) (ha : a < 9223372036854775808) (hb : b < 9223372036854775808) : bits .and .i64 (a : Int) (b : Int) = ((a &&& b : Nat) : Int) := by
  have hx : a &&& b < 9223372036854775808 := by
    have : a &&& b < 2 ^ 63 := Nat.and_lt_two_pow a (by omega)
    omega
  show IntKind.i64.wrap ((BitVec.ofInt 64 (a : Int) &&& BitVec.ofInt 64 (b : Int)).toNat : Int) = _
  rw [BitVec.toNat_and, i64_of a ha, i64_of b hb]
  exact i64w _ hx
theorem u64w (n : Nat) (h : n < 18446744073709551616) : IntKind.u64.wrap (n : Int) = n := by rw [IntKind.wrap_u64]; omega
theorem u64add (a b : Nat) (h : a + b < 18446744073709551616) : IntKind.u64.wrap ((a : Int) + b) = ((a + b : Nat) : Int) := by rw [IntKind.wrap_u64]; omega
theorem u64shl (a k : Nat) (h : a * 2 ^ k < 18446744073709551616) : IntKind.u64.wrap ((a : Int) * 2 ^ k) = ((a * 2 ^ k : Nat) : Int) := by
  rw [← u64w _ h]; simp
theorem u32shl (a k : Nat) (h : a * 2 ^ k < 4294967296) : IntKind.u32.wrap ((a : Int) * 2 ^ k) = ((a * 2 ^ k : Nat) : Int) := by
  rw [IntKind.wrap_u32', show (a : Int) * 2 ^ k = ((a * 2 ^ k : Nat) : Int) by simp]; omega
theorem u32w (n : Nat) (h : n < 4294967296) : IntKind.u32.wrap (n : Int) = n := by rw [IntKind.wrap_u32']; omega
theorem u32add (a b : Nat) (h : a + b < 4294967296) : IntKind.u32.wrap ((a : Int) + b) = ((a + b : Nat) : Int) := by rw [IntKind.wrap_u32']; omega
theorem u64pow (k : Nat) (h : k < 64) : IntKind.u64.wrap (2 ^ k) = ((2 ^ k : Nat) : Int) := by
  have : 2 ^ k < 2 ^ 64 := Nat.pow_lt_pow_right (by decide) h
  rw [← u64w (2 ^ k) this]; simp
theorem bit_shl_lt (x p k n : Nat) (h : k < n) : x / 2 ^ p % 2 * 2 ^ k < 2 ^ n := by
  have h2 : x / 2 ^ p % 2 < 2 := Nat.mod_lt _ (by decide)
  have h3 : 2 ^ k < 2 ^ n := Nat.pow_lt_pow_right (by decide) h
  rcases (show x / 2 ^ p % 2 = 0 ∨ x / 2 ^ p % 2 = 1 by omega) with e | e <;> rw [e]
  · rw [Nat.zero_mul]; exact Nat.two_pow_pos n
  · rw [Nat.one_mul]; exact h3
end Go.Proofs.Num
namespace Go.Proofs.Num
open Go.RowKit
/-- Block b holds the values f 0, .., f (n - 1) in its first cells, and they may be written. -/
def Arr (w : World) (b n : Nat) (f : Nat → Value) : Prop := ∀ j, j < n → w.cell? ⟨b, j, none⟩ = some (f j) ∧ w.frozen? ⟨b, j, none⟩ = false
theorem Arr.cell {w : World} {b n : Nat} {f : Nat → Value} (h : Arr w b n f) {j : Nat} (hj : j < n) : w.cell? ⟨b, j, none⟩ = some (f j) := (h j hj).1
theorem Arr.free {w : World} {b n : Nat} {f : Nat → Value} (h : Arr w b n f) {j : Nat} (hj : j < n) : w.frozen? ⟨b, j, none⟩ = false := (h j hj).2
theorem Arr.set {w : World} {b n : Nat} {f : Nat → Value} (h : Arr w b n f) {k : Nat} (hk : k < n) (v : Value) : Arr (w.setCell ⟨b, k, none⟩ v) b n (fun j => if j = k then v else f j) := by
  intro j hj
  refine ⟨?_, by simpa using h.free hj⟩
  by_cases e : j = k
  · subst e; simp only [if_true]; exact World.cell?_setCell_same (h := h.cell hj) ..
  · simp only [e, if_false]
    rw [World.cell?_setCell_other (h := by intro q; injection q with q1 q2; omega)]; exact h.cell hj
theorem Arr.other {w : World} {b n : Nat} {f : Nat → Value} (h : Arr w b n f) {a : Addr} (ha : a.block ≠ b) (v : Value) : Arr (w.setCell a v) b n f := by
  intro j hj
  refine ⟨?_, by simpa using h.free hj⟩
  rw [World.cell?_setCell_other (h := by intro e; rw [e] at ha; exact ha rfl)]; exact h.cell hj
theorem Arr.drew {w : World} {b n : Nat} {f : Nat → Value} (h : Arr w b n f) : Arr w.drew b n f := h
theorem Arr.congr {w : World} {b n : Nat} {f g : Nat → Value} (h : Arr w b n f) (hfg : ∀ j, j < n → f j = g j) : Arr w b n g := fun j hj => by rw [← hfg j hj]; exact h j hj
/-- A block that is known whole. -/
theorem Arr.of_block {w : World} {b n : Nat} {f : Nat → Value} {c : Array Value} {t : TypeId} (h : w.heap[b]? = some (.cells c t (0, 0))) (hc : ∀ j, j < n → c[j]? = some (f j)) : Arr w b n f := by
  intro j hj
  constructor
  · simp only [World.cell?, h]; simpa using hc j hj
  · simp [World.frozen?, h]
theorem heap_new (w : World) (o : Obj) {n : Nat} (h : n = w.heap.size) : (w.alloc o).heap[n]? = some o := by
  subst h; show (w.heap.push o)[w.heap.size]? = some o; simp
theorem heap_old (w : World) (o : Obj) {n : Nat} (h : n < w.heap.size) : (w.alloc o).heap[n]? = w.heap[n]? := Below.heap_alloc w o n h
theorem size_alloc (w : World) (o : Obj) : (w.alloc o).heap.size = w.heap.size + 1 := by simp
theorem size_set (w : World) (a : Addr) (v : Value) : (w.setCell a v).heap.size = w.heap.size := by simp [World.setCell]
/-- A callee that leaves all that was there as it was, met in a later world of a call that has done so too. -/
theorem from_below {P : Program} {f : FuncId} {args : Array Value} {W w : World} {r : Ending} (h : Below W.heap.size W w)
    (c : Calls P f args w fun e w' => e = r ∧ Below w.heap.size w w') : Calls P f args w fun e w' => e = r ∧ Below W.heap.size W w' :=
  c.mono fun _ _ ⟨he, hb⟩ => ⟨he, h.trans (hb.mono h.size)⟩
theorem from_same {P : Program} {f : FuncId} {args : Array Value} {W w : World} {r : Ending} (h : Below W.heap.size W w)
    (c : Calls P f args w fun e w' => e = r ∧ w = w') : Calls P f args w fun e w' => e = r ∧ Below W.heap.size W w' :=
  c.mono fun _ _ ⟨he, hb⟩ => ⟨he, hb ▸ h⟩
end Go.Proofs.Num
namespace Go.Proofs.Num
open Go.RowKit
/-- Of the blocks that were there, those outside S are as they were; the streams too. -/
structure Keep (S : Nat → Prop) (w w' : World) : Prop where
  os : w'.os = w.os
  tape : w'.tape = w.tape
  output : w'.output = w.output
  size : w.heap.size ≤ w'.heap.size
  block : ∀ k, k < w.heap.size → ¬ S k → w'.heap[k]? = w.heap[k]?
theorem Keep.refl (S : Nat → Prop) (w : World) : Keep S w w := ⟨rfl, rfl, rfl, Nat.le_refl _, fun _ _ _ => rfl⟩
theorem Keep.trans {S T : Nat → Prop} {a b c : World} (h : Keep S a b) (k : Keep T b c) (hT : ∀ i, i < a.heap.size → T i → S i) : Keep S a c :=
  ⟨k.os.trans h.os, k.tape.trans h.tape, k.output.trans h.output, Nat.le_trans h.size k.size,
    fun i hi hs => (k.block i (Nat.lt_of_lt_of_le hi h.size) (fun ht => hs (hT i hi ht))).trans (h.block i hi hs)⟩
theorem Keep.trans_same {S : Nat → Prop} {a b c : World} (h : Keep S a b) (k : Keep S b c) : Keep S a c := h.trans k (fun _ _ h => h)
theorem Keep.mono {S T : Nat → Prop} {a b : World} (h : Keep S a b) (hT : ∀ i, i < a.heap.size → S i → T i) : Keep T a b :=
  ⟨h.os, h.tape, h.output, h.size, fun i hi hs => h.block i hi (fun k => hs (hT i hi k))⟩
theorem Keep.drew {S : Nat → Prop} {a w : World} (h : Keep S a w) : Keep S a w.drew := ⟨h.os, h.tape, h.output, h.size, h.block⟩
theorem Keep.alloc {S : Nat → Prop} {a w : World} (h : Keep S a w) (o : Obj) : Keep S a (w.alloc o) :=
  h.trans_same ⟨rfl, rfl, rfl, by simp, fun k hk _ => Below.heap_alloc _ _ _ hk⟩
theorem Keep.setCell {S : Nat → Prop} {a w : World} (h : Keep S a w) {p : Addr} (hp : p.block < a.heap.size → S p.block) (u : Value) : Keep S a (w.setCell p u) :=
  ⟨h.os, h.tape, h.output, by have := h.size; simpa [World.setCell] using this, fun k hk hs => by
    rw [Below.heap_setCell _ _ _ _ (fun e => hs (by subst e; exact hp hk))]; exact h.block k hk hs⟩
theorem Keep.below {S : Nat → Prop} {a w w' : World} {B : Nat} (h : Below B a w) (k : Keep S w w') (hB : B ≤ w.heap.size) (hS : ∀ i, S i → B ≤ i) : Below B a w' :=
  h.trans ⟨k.os, k.tape, k.output, k.size, fun i hi => k.block i (by omega) (fun hs => by have := hS i hs; omega)⟩
theorem Keep.of_below {S : Nat → Prop} {w w' : World} (h : Below w.heap.size w w') : Keep S w w' := ⟨h.os, h.tape, h.output, h.size, fun i hi _ => h.block i hi⟩
theorem Keep.of_grown {S : Nat → Prop} {w w' : World} {row : Option Nat} (h : w.grownBy w' row) (hr : ∀ k, row = some k → k < w.heap.size → S k) : Keep S w w' :=
  ⟨h.os, h.tape, h.output, h.size, fun i hi hs => h.block i hi (fun e => hs (hr i e.symm hi))⟩
theorem Keep.heap {S : Nat → Prop} {w w' : World} (h : Keep S w w') {k : Nat} {o : Obj} (ho : w.heap[k]? = some o) (hk : ¬ S k) : w'.heap[k]? = some o :=
  (h.block k (by rcases Nat.lt_or_ge k w.heap.size with l | l; exact l; simp [Array.getElem?_eq_none l] at ho) hk).trans ho
theorem lt_of_heap {w : World} {k : Nat} {o : Obj} (ho : w.heap[k]? = some o) : k < w.heap.size := by
  rcases Nat.lt_or_ge k w.heap.size with l | l
  · exact l
  · simp [Array.getElem?_eq_none l] at ho
theorem Keep.ownsRow {S : Nat → Prop} {w w' : World} (h : Keep S w w') {b : Nat} {e : TypeId} {size n : Nat} {v : Value} {xs : List Value} (ho : w.ownsRow b e size v n xs)
    (hk : ∀ k, v.ownBlock = some k → ¬ S k) : w'.ownsRow b e size v n xs := by
  obtain ⟨h1, h2⟩ := ho
  refine ⟨h1, ?_⟩
  rcases h2 with h2 | ⟨g, cap, cur, hv, hg, hh, r⟩
  · exact Or.inl h2
  · exact Or.inr ⟨g, cap, cur, hv, hg, h.heap hh (hk g (by rw [hv]; rfl)), r⟩
/-- The cells of a block that is known whole. -/
theorem cell_blk {w : World} {p j : Nat} {c : Array Value} {t : TypeId} {v : Value} (h : w.heap[p]? = some (.cells c t (0, 0))) (hc : c[j]? = some v) : w.cell? ⟨p, j, none⟩ = some v := by
  simp only [World.cell?, h]; simpa using hc
theorem free_blk {w : World} {p j : Nat} {c : Array Value} {t : TypeId} (h : w.heap[p]? = some (.cells c t (0, 0))) : w.frozen? ⟨p, j, none⟩ = false := by simp [World.frozen?, h]
theorem set_blk {w : World} {p j : Nat} {c : Array Value} {t : TypeId} {v : Value} (h : w.heap[p]? = some (.cells c t (0, 0))) : (w.setCell ⟨p, j, none⟩ v).heap[p]? = some (.cells (c.setIfInBounds j v) t (0, 0)) :=
  heap_setCell_same w p j c t v h
end Go.Proofs.Num
