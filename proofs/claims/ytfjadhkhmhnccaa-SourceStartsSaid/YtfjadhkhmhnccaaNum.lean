/- Small facts on machine integers, in the walk's own spelling. No program in sight. -/
import Derived.WalkKit
set_option linter.unusedVariables false
namespace Go.Proofs.Num
open Go.RowKit
theorem ret_int {k : IntKind} {a b : Int} (h : a = b) : Ending.returned (.int k a) = .returned (.int k b) := by rw [h]
theorem ret_bool {a b : Bool} (h : a = b) : Ending.returned (.bool a) = .returned (.bool b) := by rw [h]
theorem val_int {k : IntKind} {a b : Int} (h : a = b) : Value.int k a = .int k b := by rw [h]
theorem ret_two {k l : IntKind} {a b c d : Int} (h : a = b) (g : c = d) : Ending.returned (.tuple #[.int k a, .int l c]) = .returned (.tuple #[.int k b, .int l d]) := by rw [h, g]
theorem hid {p : Prop} (h : p) : Hid p := h
theorem w64 {n : Int} (h0 : 0 ≤ n) (h : n < 9223372036854775808) : wrap64 n = n := by unfold wrap64; omega
theorem w64n (n : Nat) (h : n < 9223372036854775808) : wrap64 (n : Int) = n := w64 (by omega) (by omega)
theorem i64w (n : Nat) (h : n < 9223372036854775808) : IntKind.i64.wrap (n : Int) = n := by rw [IntKind.wrap_i64]; omega
theorem tm2 (x p : Nat) : ((x : Int) / 2 ^ p).tmod 2 = ((x / 2 ^ p % 2 : Nat) : Int) := by
  rw [Int.tmod_eq_emod_of_nonneg (Int.ediv_nonneg (by omega) (by exact Int.le_of_lt (Int.pow_pos (by decide))))]
  simp
theorem bit_cast (x k : Nat) : (x : Int) / 2 ^ k % 2 = ((x / 2 ^ k % 2 : Nat) : Int) := by simp
theorem i64_of (a : Nat) (ha : a < 9223372036854775808) : (BitVec.ofInt 64 (a : Int)).toNat = a := ofInt_u64 a (by omega)
theorem i64_xor (a b : Nat) (ha : a < 9223372036854775808) (hb : b < 9223372036854775808) : bits .xor .i64 (a : Int) (b : Int) = ((a ^^^ b : Nat) : Int) := by
  have hx : a ^^^ b < 9223372036854775808 := by
    have : a ^^^ b < 2 ^ 63 := Nat.xor_lt_two_pow (by omega) (by omega)
    omega
  show IntKind.i64.wrap ((BitVec.ofInt 64 (a : Int) ^^^ BitVec.ofInt 64 (b : Int)).toNat : Int) = _
  rw [BitVec.toNat_xor, i64_of a ha, i64_of b hb]
  exact i64w _ hx
theorem i64_or (a b : Nat) (ha : a < 9223372036854775808) (hb : b < 9223372036854775808) : bits .or .i64 (a : Int) (b : Int) = ((a ||| b : Nat) : Int) := by
  have hx : a ||| b < 9223372036854775808 := by
    have : a ||| b < 2 ^ 63 := Nat.or_lt_two_pow (by omega) (by omega)
    omega
  show IntKind.i64.wrap ((BitVec.ofInt 64 (a : Int) ||| BitVec.ofInt 64 (b : Int)).toNat : Int) = _
  rw [BitVec.toNat_or, i64_of a ha, i64_of b hb]
  exact i64w _ hx
theorem i64_and (a b : Nat) (ha : a < 9223372036854775808) (hb : b < 9223372036854775808) : bits .and .i64 (a : Int) (b : Int) = ((a &&& b : Nat) : Int) := by
  have hx : a &&& b < 9223372036854775808 := by
    have : a &&& b < 2 ^ 63 := Nat.and_lt_two_pow a (by omega)
    omega
  show IntKind.i64.wrap ((BitVec.ofInt 64 (a : Int) &&& BitVec.ofInt 64 (b : Int)).toNat : Int) = _
  rw [BitVec.toNat_and, i64_of a ha, i64_of b hb]
  exact i64w _ hx
theorem u64w (n : Nat) (h : n < 18446744073709551616) : IntKind.u64.wrap (n : Int) = n := by rw [IntKind.wrap_u64]; omega
theorem u64add (a b : Nat) (h : a + b < 18446744073709551616) : IntKind.u64.wrap ((a : Int) + b) = ((a + b : Nat) : Int) := by rw [IntKind.wrap_u64]; omega
theorem u64shl (a k : Nat) (h : a * 2 ^ k < 18446744073709551616) : IntKind.u64.wrap ((a : Int) * 2 ^ k) = ((a * 2 ^ k : Nat) : Int) := by
  rw [← u64w _ h]; simp
theorem u32shl (a k : Nat) (h : a * 2 ^ k < 4294967296) : IntKind.u32.wrap ((a : Int) * 2 ^ k) = ((a * 2 ^ k : Nat) : Int) := by
  rw [IntKind.wrap_u32', show (a : Int) * 2 ^ k = ((a * 2 ^ k : Nat) : Int) by simp]; omega
theorem u32w (n : Nat) (h : n < 4294967296) : IntKind.u32.wrap (n : Int) = n := by rw [IntKind.wrap_u32']; omega
theorem u32add (a b : Nat) (h : a + b < 4294967296) : IntKind.u32.wrap ((a : Int) + b) = ((a + b : Nat) : Int) := by rw [IntKind.wrap_u32']; omega
theorem u64pow (k : Nat) (h : k < 64) : IntKind.u64.wrap (2 ^ k) = ((2 ^ k : Nat) : Int) := by
  have : 2 ^ k < 2 ^ 64 := Nat.pow_lt_pow_right (by decide) h
  rw [← u64w (2 ^ k) this]; simp
theorem bit_shl_lt (x p k n : Nat) (h : k < n) : x / 2 ^ p % 2 * 2 ^ k < 2 ^ n := by
  have h2 : x / 2 ^ p % 2 < 2 := Nat.mod_lt _ (by decide)
  have h3 : 2 ^ k < 2 ^ n := Nat.pow_lt_pow_right (by decide) h
  rcases (show x / 2 ^ p % 2 = 0 ∨ x / 2 ^ p % 2 = 1 by omega) with e | e <;> rw [e]
  · rw [Nat.zero_mul]; exact Nat.two_pow_pos n
  · rw [Nat.one_mul]; exact h3
end Go.Proofs.Num
