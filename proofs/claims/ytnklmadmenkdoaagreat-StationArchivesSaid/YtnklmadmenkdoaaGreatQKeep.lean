/- Integers as bytes, most significant first. No program in sight. Numbers of bits as bytes, most significant first; one bit more. No program in sight. Small facts on machine integers, in the walk's own spelling. No program in sight. Rows of cells in memory: what they hold, and what a store leaves. No program in sight. What a call leaves as it was: all blocks but those of a footprint. Values that own rows of cells, in worlds that keep them. No program in sight. -/
import Derived.WalkKit
set_option linter.unusedVariables false
set_option linter.unusedSimpArgs false
namespace Oct
def be : Nat → Nat → List Nat
  | 0, _ => []
  | n + 1, x => (x / 2 ^ (8 * n) % 256) :: be n x
theorem be_len (n x : Nat) : (be n x).length = n := by
  induction n with
  | zero => rfl
  | succ n ih => simp [be, ih]
end Oct
namespace Bitw
open Oct
/-- The last byte stands apart. -/
theorem be_snoc (n x : Nat) : be (n + 1) x = be n (x / 256) ++ [x % 256] := by
  induction n generalizing x with
  | zero => simp [be]
  | succ n ih =>
    show (x / 2 ^ (8 * (n + 1)) % 256) :: be (n + 1) x = (x / 256 / 2 ^ (8 * n) % 256) :: be n (x / 256) ++ [x % 256]
    rw [ih x, Nat.div_div_eq_div_mul, show 256 * 2 ^ (8 * n) = 2 ^ (8 * (n + 1)) by rw [show 8 * (n + 1) = 8 + 8 * n by omega, Nat.pow_add]]
    rfl
/-- How many bytes n bits have. -/
def bytes (n : Nat) : Nat := (n + 7) / 8
/-- The bytes of a number of n bits, from the left. -/
def pk (n v : Nat) : List Nat := be (bytes n) (v * 2 ^ (8 * bytes n - n))
theorem pk_len (n v : Nat) : (pk n v).length = bytes n := be_len _ _
theorem or_bit (m k b : Nat) (hb : b < 2) : (m * 2 ^ (k + 1)) ||| (b * 2 ^ k) = m * 2 ^ (k + 1) + b * 2 ^ k := by
  have h : b * 2 ^ k < 2 ^ (k + 1) := by
    rw [Nat.pow_succ, Nat.mul_comm]; exact Nat.mul_lt_mul_of_pos_left hb (Nat.two_pow_pos k)
  rw [← Nat.shiftLeft_eq m (k + 1), ← Nat.shiftLeft_add_eq_or_of_lt h]
/-- The bytes in which the next bit goes. -/
def nx (n v : Nat) : List Nat := be (n / 8 + 1) (v * 2 ^ (8 - n % 8))
theorem nx_new (n v : Nat) (h : n % 8 = 0) : nx n v = pk n v ++ [0] := by
  have e1 : bytes n = n / 8 := by unfold bytes; omega
  unfold nx pk
  rw [be_snoc, e1, h, show 8 * (n / 8) - n = 0 by omega]
  simp
theorem nx_in (n v : Nat) (h : n % 8 ≠ 0) : nx n v = pk n v := by
  have e1 : bytes n = n / 8 + 1 := by unfold bytes; omega
  unfold nx pk
  rw [e1, show 8 * (n / 8 + 1) - n = 8 - n % 8 by omega]
theorem nx_put (n v b : Nat) (hb : b < 2) : ∃ x, (nx n v)[n / 8]? = some x ∧ x < 256 ∧ (nx n v).set (n / 8) (x ||| b * 2 ^ (7 - n % 8)) = pk (n + 1) (v * 2 + b) ∧ x ||| b * 2 ^ (7 - n % 8) < 256 := by
  obtain ⟨k, hk⟩ : ∃ k, k = 7 - n % 8 := ⟨_, rfl⟩
  have h8 : 8 - n % 8 = k + 1 := by omega
  have hr : n % 8 = 7 - k := by omega
  have hk7 : k ≤ 7 := by omega
  have e256 : (256 : Nat) = 2 ^ (k + 1) * 2 ^ (7 - k) := by
    rw [← Nat.pow_add, show k + 1 + (7 - k) = 8 by omega]
  have em : v * 2 ^ (k + 1) % 256 = v % 2 ^ (7 - k) * 2 ^ (k + 1) := by
    rw [e256, Nat.mul_comm v, Nat.mul_mod_mul_left, Nat.mul_comm]
  have hx : (v % 2 ^ (7 - k) * 2 ^ (k + 1)) ||| b * 2 ^ k = v % 2 ^ (7 - k) * 2 ^ (k + 1) + b * 2 ^ k := or_bit _ _ _ hb
  have hlt : v % 2 ^ (7 - k) * 2 ^ (k + 1) + b * 2 ^ k < 256 := by
    have h1 : v % 2 ^ (7 - k) + 1 ≤ 2 ^ (7 - k) := Nat.mod_lt _ (Nat.two_pow_pos _)
    have h2 : b * 2 ^ k < 2 ^ (k + 1) := by
      rw [Nat.pow_succ, Nat.mul_comm]; exact Nat.mul_lt_mul_of_pos_left hb (Nat.two_pow_pos k)
    have h3 := Nat.mul_le_mul_right (2 ^ (k + 1)) h1
    rw [Nat.add_mul, Nat.one_mul, Nat.mul_comm (2 ^ (7 - k)), ← e256] at h3
    omega
  have hd : b * 2 ^ k < 256 := by omega
  have eX : (v * 2 + b) * 2 ^ k = v * 2 ^ (k + 1) + b * 2 ^ k := by rw [Nat.add_mul, Nat.pow_succ, Nat.mul_assoc, Nat.mul_comm 2 (2 ^ k)]
  have e1 : bytes (n + 1) = n / 8 + 1 := by unfold bytes; omega
  refine ⟨v % 2 ^ (7 - k) * 2 ^ (k + 1), ?_, by omega, ?_, ?_⟩
  · unfold nx; rw [h8, be_snoc, em, List.getElem?_append_right (by rw [be_len]; omega), be_len, Nat.sub_self]; rfl
  · rw [← hk, hx]
    unfold nx pk
    rw [e1, show 8 * (n / 8 + 1) - (n + 1) = k by omega, h8, be_snoc, be_snoc, eX]
    have d1 : (v * 2 ^ (k + 1) + b * 2 ^ k) / 256 = v * 2 ^ (k + 1) / 256 := by
      have := Nat.div_add_mod (v * 2 ^ (k + 1)) 256
      rw [em] at this; omega
    have d2 : (v * 2 ^ (k + 1) + b * 2 ^ k) % 256 = v % 2 ^ (7 - k) * 2 ^ (k + 1) + b * 2 ^ k := by
      have := Nat.div_add_mod (v * 2 ^ (k + 1)) 256
      rw [em] at this; omega
    rw [d1, d2, List.set_append_right _ _ (by rw [be_len]; omega), be_len, Nat.sub_self]; rfl
  · rw [← hk, hx]; exact hlt
theorem pk_lt (n v : Nat) : ∀ y ∈ pk n v, y < 256 := by
  have : ∀ m x, ∀ y ∈ be m x, y < 256 := by
    intro m
    induction m with
    | zero => intro x y hy; simp [be] at hy
    | succ m ih =>
      intro x y hy
      simp only [be, List.mem_cons] at hy
      rcases hy with rfl | hy
      · exact Nat.mod_lt _ (by decide)
      · exact ih x y hy
  exact this _ _
/-- The value behind width bits more. -/
theorem put_step (x w i : Nat) (h : i < w) (v : Nat) : (v * 2 ^ i + x % 2 ^ w / 2 ^ (w - i)) * 2 + x / 2 ^ (w - 1 - i) % 2 = v * 2 ^ (i + 1) + x % 2 ^ w / 2 ^ (w - (i + 1)) := by
  obtain ⟨k, rfl⟩ : ∃ k, w = i + 1 + k := ⟨w - i - 1, by omega⟩
  rw [show i + 1 + k - i = k + 1 by omega, show i + 1 + k - 1 - i = k by omega, show i + 1 + k - (i + 1) = k by omega, Nat.add_mul, Nat.pow_succ 2 i, ← Nat.mul_assoc]
  rw [Nat.add_assoc]
  congr 1
  have h1 : x / 2 ^ k % 2 = x % 2 ^ (i + 1 + k) / 2 ^ k % 2 := by
    have : (x % 2 ^ (i + 1 + k)) / 2 ^ k = x / 2 ^ k % 2 ^ (i + 1) := by
      rw [show i + 1 + k = k + (i + 1) by omega, Nat.pow_add, Nat.mod_mul_right_div_self]
    rw [this, Nat.pow_succ', Nat.mod_mul_right_mod]
  rw [h1, Nat.pow_succ, ← Nat.div_div_eq_div_mul]
  omega
end Bitw
namespace Go.Proofs.Num
open Go.RowKit
theorem ret_int {k : IntKind} {a b : Int} (h : a = b) : Ending.returned (.int k a) = .returned (.int k b) := by rw [h]
theorem ret_bool {a b : Bool} (h : a = b) : Ending.returned (.bool a) = .returned (.bool b) := by rw [h]
theorem val_int {k : IntKind} {a b : Int} (h : a = b) : Value.int k a = .int k b := by rw [h]
theorem ret_two {k l : IntKind} {a b c d : Int} (h : a = b) (g : c = d) : Ending.returned (.tuple #[.int k a, .int l c]) = .returned (.tuple #[.int k b, .int l d]) := by rw [h, g]
theorem hid {p : Prop} (h : p) : Hid p := h
theorem w64 {n : Int} (h0 : 0 ≤ n) (h : n < 9223372036854775808) : wrap64 n = n := by unfold wrap64; omega
theorem w64n (n : Nat) (h : n < 9223372036854775808) : wrap64 (n : Int) = n := w64 (by omega) (by omega)
theorem i64w (n : Nat) (h : n < 9223372036854775808) : IntKind.i64.wrap (n : Int) = n := by rw [IntKind.wrap_i64]; omega
theorem tm2 (x p : Nat) : ((x : Int) / 2 ^ p).tmod 2 = ((x / 2 ^ p % 2 : Nat) : Int) := by
  rw [Int.tmod_eq_emod_of_nonneg (Int.ediv_nonneg (by omega) (by exact Int.le_of_lt (Int.pow_pos (by decide))))]
  simp
theorem bit_cast (x k : Nat) : (x : Int) / 2 ^ k % 2 = ((x / 2 ^ k % 2 : Nat) : Int) := by simp
theorem i64_of (a : Nat) (ha : a < 9223372036854775808) : (BitVec.ofInt 64 (a : Int)).toNat = a := ofInt_u64 a (by omega)
theorem i64_xor (a b : Nat) (ha : a < 9223372036854775808) (hb : b < 9223372036854775808) : bits .xor .i64 (a : Int) (b : Int) = ((a ^^^ b : Nat) : Int) := by
  have hx : a ^^^ b < 9223372036854775808 := by
    have : a ^^^ b < 2 ^ 63 := Nat.xor_lt_two_pow (by omega) (by omega)
    omega
  show IntKind.i64.wrap ((BitVec.ofInt 64 (a : Int) ^^^ BitVec.ofInt 64 (b : Int)).toNat : Int) = _
  rw [BitVec.toNat_xor, i64_of a ha, i64_of b hb]
  exact i64w _ hx
theorem i64_or (a b : Nat) (ha : a < 9223372036854775808) (hb : b < 9223372036854775808) : bits .or .i64 (a : Int) (b : Int) = ((a ||| b : Nat) : Int) := by
  have hx : a ||| b < 9223372036854775808 := by
    have : a ||| b < 2 ^ 63 := Nat.or_lt_two_pow (by omega) (by omega)
    omega
  show IntKind.i64.wrap ((BitVec.ofInt 64 (a : Int) ||| BitVec.ofInt 64 (b : Int)).toNat : Int) = _
  rw [BitVec.toNat_or, i64_of a ha, i64_of b hb]
  exact i64w _ hx
theorem i64_and (a b : Nat) (ha : a < 9223372036854775808) (hb : b < 9223372036854775808) : bits .and .i64 (a : Int) (b : Int) = ((a &&& b : Nat) : Int) := by
  have hx : a &&& b < 9223372036854775808 := by
    have : a &&& b < 2 ^ 63 := Nat.and_lt_two_pow a (by omega)
    omega
  show IntKind.i64.wrap ((BitVec.ofInt 64 (a : Int) &&& BitVec.ofInt 64 (b : Int)).toNat : Int) = _
  rw [BitVec.toNat_and, i64_of a ha, i64_of b hb]
  exact i64w _ hx
theorem u64w (n : Nat) (h : n < 18446744073709551616) : IntKind.u64.wrap (n : Int) = n := by rw [IntKind.wrap_u64]; omega
theorem u64add (a b : Nat) (h : a + b < 18446744073709551616) : IntKind.u64.wrap ((a : Int) + b) = ((a + b : Nat) : Int) := by rw [IntKind.wrap_u64]; omega
theorem u64shl (a k : Nat) (h : a * 2 ^ k < 18446744073709551616) : IntKind.u64.wrap ((a : Int) * 2 ^ k) = ((a * 2 ^ k : Nat) : Int) := by
  rw [← u64w _ h]; simp
theorem u32shl (a k : Nat) (h : a * 2 ^ k < 4294967296) : IntKind.u32.wrap ((a : Int) * 2 ^ k) = ((a * 2 ^ k : Nat) : Int) := by
  rw [IntKind.wrap_u32', show (a : Int) * 2 ^ k = ((a * 2 ^ k : Nat) : Int) by simp]; omega
theorem u32w (n : Nat) (h : n < 4294967296) : IntKind.u32.wrap (n : Int) = n := by rw [IntKind.wrap_u32']; omega
theorem u32add (a b : Nat) (h : a + b < 4294967296) : IntKind.u32.wrap ((a : Int) + b) = ((a + b : Nat) : Int) := by rw [IntKind.wrap_u32']; omega
theorem u64pow (k : Nat) (h : k < 64) : IntKind.u64.wrap (2 ^ k) = ((2 ^ k : Nat) : Int) := by
  have : 2 ^ k < 2 ^ 64 := Nat.pow_lt_pow_right (by decide) h
  rw [← u64w (2 ^ k) this]; simp
theorem bit_shl_lt (x p k n : Nat) (h : k < n) : x / 2 ^ p % 2 * 2 ^ k < 2 ^ n := by
  have h2 : x / 2 ^ p % 2 < 2 := Nat.mod_lt _ (by decide)
  have h3 : 2 ^ k < 2 ^ n := Nat.pow_lt_pow_right (by decide) h
  rcases (show x / 2 ^ p % 2 = 0 ∨ x / 2 ^ p % 2 = 1 by omega) with e | e <;> rw [e]
  · rw [Nat.zero_mul]; exact Nat.two_pow_pos n
  · rw [Nat.one_mul]; exact h3
end Go.Proofs.Num
namespace Go.Proofs.Num
open Go.RowKit
/-- Block b holds the values f 0, .., f (n - 1) in its first cells, and they may be written. -/
def Arr (w : World) (b n : Nat) (f : Nat → Value) : Prop := ∀ j, j < n → w.cell? ⟨b, j, none⟩ = some (f j) ∧ w.frozen? ⟨b, j, none⟩ = false
theorem Arr.cell {w : World} {b n : Nat} {f : Nat → Value} (h : Arr w b n f) {j : Nat} (hj : j < n) : w.cell? ⟨b, j, none⟩ = some (f j) := (h j hj).1
theorem Arr.free {w : World} {b n : Nat} {f : Nat → Value} (h : Arr w b n f) {j : Nat} (hj : j < n) : w.frozen? ⟨b, j, none⟩ = false := (h j hj).2
theorem Arr.set {w : World} {b n : Nat} {f : Nat → Value} (h : Arr w b n f) {k : Nat} (hk : k < n) (v : Value) : Arr (w.setCell ⟨b, k, none⟩ v) b n (fun j => if j = k then v else f j) := by
  intro j hj
  refine ⟨?_, by simpa using h.free hj⟩
  by_cases e : j = k
  · subst e; simp only [if_true]; exact World.cell?_setCell_same (h := h.cell hj) ..
  · simp only [e, if_false]
    rw [World.cell?_setCell_other (h := by intro q; injection q with q1 q2; omega)]; exact h.cell hj
theorem Arr.other {w : World} {b n : Nat} {f : Nat → Value} (h : Arr w b n f) {a : Addr} (ha : a.block ≠ b) (v : Value) : Arr (w.setCell a v) b n f := by
  intro j hj
  refine ⟨?_, by simpa using h.free hj⟩
  rw [World.cell?_setCell_other (h := by intro e; rw [e] at ha; exact ha rfl)]; exact h.cell hj
theorem Arr.drew {w : World} {b n : Nat} {f : Nat → Value} (h : Arr w b n f) : Arr w.drew b n f := h
theorem Arr.congr {w : World} {b n : Nat} {f g : Nat → Value} (h : Arr w b n f) (hfg : ∀ j, j < n → f j = g j) : Arr w b n g := fun j hj => by rw [← hfg j hj]; exact h j hj
/-- A block that is known whole. -/
theorem Arr.of_block {w : World} {b n : Nat} {f : Nat → Value} {c : Array Value} {t : TypeId} (h : w.heap[b]? = some (.cells c t (0, 0))) (hc : ∀ j, j < n → c[j]? = some (f j)) : Arr w b n f := by
  intro j hj
  constructor
  · simp only [World.cell?, h]; simpa using hc j hj
  · simp [World.frozen?, h]
theorem heap_new (w : World) (o : Obj) {n : Nat} (h : n = w.heap.size) : (w.alloc o).heap[n]? = some o := by
  subst h; show (w.heap.push o)[w.heap.size]? = some o; simp
theorem heap_old (w : World) (o : Obj) {n : Nat} (h : n < w.heap.size) : (w.alloc o).heap[n]? = w.heap[n]? := Below.heap_alloc w o n h
theorem size_alloc (w : World) (o : Obj) : (w.alloc o).heap.size = w.heap.size + 1 := by simp
theorem size_set (w : World) (a : Addr) (v : Value) : (w.setCell a v).heap.size = w.heap.size := by simp [World.setCell]
/-- A callee that leaves all that was there as it was, met in a later world of a call that has done so too. -/
theorem from_below {P : Program} {f : FuncId} {args : Array Value} {W w : World} {r : Ending} (h : Below W.heap.size W w)
    (c : Calls P f args w fun e w' => e = r ∧ Below w.heap.size w w') : Calls P f args w fun e w' => e = r ∧ Below W.heap.size W w' :=
  c.mono fun _ _ ⟨he, hb⟩ => ⟨he, h.trans (hb.mono h.size)⟩
theorem from_same {P : Program} {f : FuncId} {args : Array Value} {W w : World} {r : Ending} (h : Below W.heap.size W w)
    (c : Calls P f args w fun e w' => e = r ∧ w = w') : Calls P f args w fun e w' => e = r ∧ Below W.heap.size W w' :=
  c.mono fun _ _ ⟨he, hb⟩ => ⟨he, hb ▸ h⟩
end Go.Proofs.Num
namespace Go.Proofs.Num
open Go.RowKit
/-- Of the blocks that were there, those outside S are as they were; the streams too. -/
structure Keep (S : Nat → Prop) (w w' : World) : Prop where
  os : w'.os = w.os
  tape : w'.tape = w.tape
  output : w'.output = w.output
  size : w.heap.size ≤ w'.heap.size
  block : ∀ k, k < w.heap.size → ¬ S k → w'.heap[k]? = w.heap[k]?
theorem Keep.refl (S : Nat → Prop) (w : World) : Keep S w w := ⟨rfl, rfl, rfl, Nat.le_refl _, fun _ _ _ => rfl⟩
theorem Keep.trans {S T : Nat → Prop} {a b c : World} (h : Keep S a b) (k : Keep T b c) (hT : ∀ i, i < a.heap.size → T i → S i) : Keep S a c :=
  ⟨k.os.trans h.os, k.tape.trans h.tape, k.output.trans h.output, Nat.le_trans h.size k.size,
    fun i hi hs => (k.block i (Nat.lt_of_lt_of_le hi h.size) (fun ht => hs (hT i hi ht))).trans (h.block i hi hs)⟩
theorem Keep.trans_same {S : Nat → Prop} {a b c : World} (h : Keep S a b) (k : Keep S b c) : Keep S a c := h.trans k (fun _ _ h => h)
theorem Keep.mono {S T : Nat → Prop} {a b : World} (h : Keep S a b) (hT : ∀ i, i < a.heap.size → S i → T i) : Keep T a b :=
  ⟨h.os, h.tape, h.output, h.size, fun i hi hs => h.block i hi (fun k => hs (hT i hi k))⟩
theorem Keep.drew {S : Nat → Prop} {a w : World} (h : Keep S a w) : Keep S a w.drew := ⟨h.os, h.tape, h.output, h.size, h.block⟩
theorem Keep.alloc {S : Nat → Prop} {a w : World} (h : Keep S a w) (o : Obj) : Keep S a (w.alloc o) :=
  h.trans_same ⟨rfl, rfl, rfl, by simp, fun k hk _ => Below.heap_alloc _ _ _ hk⟩
theorem Keep.setCell {S : Nat → Prop} {a w : World} (h : Keep S a w) {p : Addr} (hp : p.block < a.heap.size → S p.block) (u : Value) : Keep S a (w.setCell p u) :=
  ⟨h.os, h.tape, h.output, by have := h.size; simpa [World.setCell] using this, fun k hk hs => by
    rw [Below.heap_setCell _ _ _ _ (fun e => hs (by subst e; exact hp hk))]; exact h.block k hk hs⟩
theorem Keep.below {S : Nat → Prop} {a w w' : World} {B : Nat} (h : Below B a w) (k : Keep S w w') (hB : B ≤ w.heap.size) (hS : ∀ i, S i → B ≤ i) : Below B a w' :=
  h.trans ⟨k.os, k.tape, k.output, k.size, fun i hi => k.block i (by omega) (fun hs => by have := hS i hs; omega)⟩
theorem Keep.of_below {S : Nat → Prop} {w w' : World} (h : Below w.heap.size w w') : Keep S w w' := ⟨h.os, h.tape, h.output, h.size, fun i hi _ => h.block i hi⟩
theorem Keep.of_grown {S : Nat → Prop} {w w' : World} {row : Option Nat} (h : w.grownBy w' row) (hr : ∀ k, row = some k → k < w.heap.size → S k) : Keep S w w' :=
  ⟨h.os, h.tape, h.output, h.size, fun i hi hs => h.block i hi (fun e => hs (hr i e.symm hi))⟩
theorem Keep.heap {S : Nat → Prop} {w w' : World} (h : Keep S w w') {k : Nat} {o : Obj} (ho : w.heap[k]? = some o) (hk : ¬ S k) : w'.heap[k]? = some o :=
  (h.block k (by rcases Nat.lt_or_ge k w.heap.size with l | l; exact l; simp [Array.getElem?_eq_none l] at ho) hk).trans ho
theorem lt_of_heap {w : World} {k : Nat} {o : Obj} (ho : w.heap[k]? = some o) : k < w.heap.size := by
  rcases Nat.lt_or_ge k w.heap.size with l | l
  · exact l
  · simp [Array.getElem?_eq_none l] at ho
theorem Keep.ownsRow {S : Nat → Prop} {w w' : World} (h : Keep S w w') {b : Nat} {e : TypeId} {size n : Nat} {v : Value} {xs : List Value} (ho : w.ownsRow b e size v n xs)
    (hk : ∀ k, v.ownBlock = some k → ¬ S k) : w'.ownsRow b e size v n xs := by
  obtain ⟨h1, h2⟩ := ho
  refine ⟨h1, ?_⟩
  rcases h2 with h2 | ⟨g, cap, cur, hv, hg, hh, r⟩
  · exact Or.inl h2
  · exact Or.inr ⟨g, cap, cur, hv, hg, h.heap hh (hk g (by rw [hv]; rfl)), r⟩
/-- The cells of a block that is known whole. -/
theorem cell_blk {w : World} {p j : Nat} {c : Array Value} {t : TypeId} {v : Value} (h : w.heap[p]? = some (.cells c t (0, 0))) (hc : c[j]? = some v) : w.cell? ⟨p, j, none⟩ = some v := by
  simp only [World.cell?, h]; simpa using hc
theorem free_blk {w : World} {p j : Nat} {c : Array Value} {t : TypeId} (h : w.heap[p]? = some (.cells c t (0, 0))) : w.frozen? ⟨p, j, none⟩ = false := by simp [World.frozen?, h]
theorem set_blk {w : World} {p j : Nat} {c : Array Value} {t : TypeId} {v : Value} (h : w.heap[p]? = some (.cells c t (0, 0))) : (w.setCell ⟨p, j, none⟩ v).heap[p]? = some (.cells (c.setIfInBounds j v) t (0, 0)) :=
  heap_setCell_same w p j c t v h
end Go.Proofs.Num
