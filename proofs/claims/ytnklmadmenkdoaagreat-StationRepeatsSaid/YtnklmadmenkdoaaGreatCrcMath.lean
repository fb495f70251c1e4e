/- The checksums CRC-16 and CRC-32C: byte by byte as the program computes them, and bit by bit as the specification does. No program in sight. -/
import Derived.Test.YtnklmadmenkdoaaGreatEccMath
set_option linter.unusedVariables false
namespace Crc
open Ecc
/-- A chain of linear steps with an injected constant. -/
def chain (S : Nat → Nat) (D : Nat → Nat) : Nat → List Nat → Nat
  | c, [] => c
  | c, d :: ds => chain S D (S c ^^^ D d) ds
def iter (S : Nat → Nat) : Nat → Nat → Nat
  | 0, c => c
  | n + 1, c => iter S n (S c)
theorem iter_lin {S : Nat → Nat} (h : Lin S) (n : Nat) : Lin (iter S n) := by
  induction n with
  | zero => exact Lin.id
  | succ n ih => intro a b; simp only [iter]; rw [h, ih]
theorem chain_lin {S D : Nat → Nat} (h : Lin S) (ds : List Nat) : ∀ a b, chain S D (a ^^^ b) ds = iter S ds.length a ^^^ chain S D b ds := by
  induction ds with
  | nil => intro a b; rfl
  | cons d ds ih =>
    intro a b
    simp only [chain, List.length_cons, iter]
    rw [h, Nat.xor_assoc, ih]
theorem chain_eq {S D : Nat → Nat} (h : Lin S) (ds : List Nat) (c : Nat) : chain S D c ds = iter S ds.length c ^^^ chain S D 0 ds := by
  have := chain_lin (D := D) h ds c 0
  rwa [Nat.xor_zero] at this
theorem iter_succ (S : Nat → Nat) (n c : Nat) : iter S (n + 1) c = S (iter S n c) := by
  induction n generalizing c with
  | zero => rfl
  | succ n ih => exact ih _
/-! ### CRC-16 -/
def S16 (c : Nat) : Nat := c * 2 % 65536 ^^^ (if c.testBit 15 then 4129 else 0)
def D16 (d : Nat) : Nat := if d = 1 then 4129 else 0
theorem mul_mod_lin : Lin (fun c => c * 2 % 65536) := by
  intro a b
  show (a ^^^ b) * 2 % 2 ^ 16 = (a * 2 % 2 ^ 16) ^^^ (b * 2 % 2 ^ 16)
  rw [← Nat.xor_mod_two_pow]
  congr 1
  have := Nat.shiftLeft_xor_distrib (a := a) (b := b) (i := 1)
  simp only [Nat.shiftLeft_eq, Nat.pow_one] at this
  exact this
theorem S16_lin : Lin S16 := mul_mod_lin.xor (Lin.sel 15 4129)
/-- One step of the specification. -/
def T16 (r d : Nat) : Nat := if (r / 32768 + d) % 2 = 1 then r * 2 % 65536 ^^^ 4129 else r * 2 % 65536
theorem T16_eq (r d : Nat) (hr : r < 65536) (hd : d < 2) : T16 r d = S16 r ^^^ D16 d := by
  unfold T16 S16 D16
  have hb : r.testBit 15 = decide (r / 32768 = 1) := by
    rw [Nat.testBit_eq_decide_div_mod_eq]
    have : r / 2 ^ 15 % 2 = r / 32768 := by show r / 32768 % 2 = _; omega
    rw [this]
  rw [hb]
  rcases (show r / 32768 = 0 ∨ r / 32768 = 1 by omega) with h | h <;> rcases (show d = 0 ∨ d = 1 by omega) with rfl | rfl <;> rw [h] <;> simp [Nat.xor_assoc]
theorem S16_hi (r : Nat) (hr : r < 65536) (h : r / 32768 = 1) : S16 r = r * 2 % 65536 ^^^ 4129 := by
  have hb : r.testBit 15 = true := by
    rw [Nat.testBit_eq_decide_div_mod_eq]
    have : r / 2 ^ 15 % 2 = r / 32768 := by show r / 32768 % 2 = _; omega
    rw [this]; simp [h]
  unfold S16; rw [hb]; rfl
theorem S16_lo (r : Nat) (h : r / 32768 = 0) : S16 r = r * 2 % 65536 := by
  have hb : r.testBit 15 = false := by
    rw [Nat.testBit_eq_decide_div_mod_eq]
    have : r / 2 ^ 15 % 2 = 0 := by show r / 32768 % 2 = _; omega
    rw [this]; rfl
  unfold S16; rw [hb]; simp
theorem S16_lt (r : Nat) : S16 r < 65536 := by
  have h1 : r * 2 % 65536 < 2 ^ 16 := Nat.mod_lt _ (by decide)
  have h2 : (if r.testBit 15 then 4129 else 0) < 2 ^ 16 := by split <;> decide
  exact Nat.xor_lt_two_pow h1 h2
theorem T16_lt (r d : Nat) (hr : r < 65536) (hd : d < 2) : T16 r d < 65536 := by
  rw [T16_eq r d hr hd]
  have h2 : D16 d < 2 ^ 16 := by unfold D16; split <;> decide
  exact Nat.xor_lt_two_pow (S16_lt r) h2
/-- The bits of a byte, most significant first. -/
def msb (x : Nat) : List Nat := [x / 128 % 2, x / 64 % 2, x / 32 % 2, x / 16 % 2, x / 8 % 2, x / 4 % 2, x / 2 % 2, x % 2]
theorem table16 : ∀ x, x < 256 → iter S16 8 (x * 256) = chain S16 D16 0 (msb x) := by decide +kernel
/-- One byte, as the program does it. -/
def B16 (c x : Nat) : Nat := iter S16 8 (c ^^^ x * 256)
theorem byte16 (c x : Nat) (hx : x < 256) : chain S16 D16 c (msb x) = B16 c x := by
  rw [chain_eq S16_lin, B16, iter_lin S16_lin, table16 x hx]; rfl
def crc16 (c : Nat) : List Nat → Nat
  | [] => c
  | x :: l => crc16 (B16 c x) l
theorem crc16_snoc (c : Nat) (l : List Nat) (x : Nat) : crc16 c (l ++ [x]) = B16 (crc16 c l) x := by
  induction l generalizing c with
  | nil => rfl
  | cons y l ih => exact ih _
theorem iterS16_lt (n c : Nat) (h : c < 65536) : iter S16 n c < 65536 := by
  induction n generalizing c with
  | zero => exact h
  | succ n ih => exact ih _ (S16_lt c)
theorem B16_lt (c x : Nat) (hc : c < 65536) (hx : x < 256) : B16 c x < 65536 := by
  refine iterS16_lt 8 _ ?_
  exact Nat.xor_lt_two_pow (n := 16) hc (by omega)
theorem crc16_lt (c : Nat) (l : List Nat) (hc : c < 65536) (hl : ∀ x ∈ l, x < 256) : crc16 c l < 65536 := by
  induction l generalizing c with
  | nil => exact hc
  | cons x l ih => exact ih _ (B16_lt c x hc (hl x (by simp))) (fun y hy => hl y (by simp [hy]))
/-- Bit i of a byte string. -/
def bitAt (l : List Nat) (i : Nat) : Nat := l.getD (i / 8) 0 / 2 ^ (7 - i % 8) % 2
/-- The specification, after i bits. -/
def R16 (c : Nat) (l : List Nat) : Nat → Nat
  | 0 => c
  | i + 1 => T16 (R16 c l i) (bitAt l i)
theorem bitAt_lt (l : List Nat) (i : Nat) : bitAt l i < 2 := Nat.mod_lt _ (by decide)
theorem R16_lt (c : Nat) (l : List Nat) (hc : c < 65536) (i : Nat) : R16 c l i < 65536 := by
  induction i with
  | zero => exact hc
  | succ i ih => exact T16_lt _ _ ih (bitAt_lt l i)
theorem bitAt_at (l : List Nat) (k j : Nat) (hj : j < 8) : bitAt l (8 * k + j) = l.getD k 0 / 2 ^ (7 - j) % 2 := by
  unfold bitAt
  rw [show (8 * k + j) / 8 = k by omega, show (8 * k + j) % 8 = j by omega]
theorem R16_byte (c : Nat) (l : List Nat) (hc : c < 65536) (k : Nat) : R16 c l (8 * k + 8) = chain S16 D16 (R16 c l (8 * k)) (msb (l.getD k 0)) := by
  have s : ∀ j, j < 8 → R16 c l (8 * k + j + 1) = S16 (R16 c l (8 * k + j)) ^^^ D16 (l.getD k 0 / 2 ^ (7 - j) % 2) := by
    intro j hj
    show T16 _ _ = _
    rw [T16_eq _ _ (R16_lt c l hc _) (bitAt_lt _ _), bitAt_at l k j hj]
  rw [s 7 (by decide), s 6 (by decide), s 5 (by decide), s 4 (by decide), s 3 (by decide), s 2 (by decide), s 1 (by decide), s 0 (by decide)]
  simp [chain, msb]
theorem R16_all (c : Nat) (l : List Nat) (hc : c < 65536) (hl : ∀ x ∈ l, x < 256) : ∀ k, k ≤ l.length → R16 c l (8 * k) = crc16 c (l.take k)
  | 0, _ => by simp [R16, crc16]
  | k + 1, hk => by
    have hx : l.getD k 0 = l[k] := by simp [List.getD, show k < l.length by omega]
    rw [show 8 * (k + 1) = 8 * k + 8 by omega, R16_byte c l hc k, R16_all c l hc hl k (by omega), hx, byte16 _ _ (hl _ (List.getElem_mem _)), List.take_succ_eq_append_getElem (by omega), crc16_snoc]
/-! ### CRC-32C -/
def S32 (c : Nat) : Nat := c / 2 ^^^ (if c.testBit 0 then 2197175160 else 0)
def D32 (d : Nat) : Nat := if d = 1 then 2197175160 else 0
theorem div_lin : Lin (fun c => c / 2) := by
  intro a b
  exact Nat.xor_div_two
theorem S32_lin : Lin S32 := div_lin.xor (Lin.sel 0 2197175160)
def T32 (r d : Nat) : Nat := if (r + d) % 2 = 1 then r / 2 ^^^ 2197175160 else r / 2
theorem T32_eq (r d : Nat) : T32 r (d % 2) = S32 r ^^^ D32 (d % 2) := by
  unfold T32 S32 D32
  have hb : r.testBit 0 = decide (r % 2 = 1) := by rw [Nat.testBit_zero]
  rw [hb]
  rcases Nat.mod_two_eq_zero_or_one r with h | h <;> rcases Nat.mod_two_eq_zero_or_one d with g | g <;> simp [h, g, Nat.add_mod, Nat.xor_assoc]
theorem T32_mod (r d : Nat) : T32 r d = T32 r (d % 2) := by
  unfold T32; rw [show (r + d % 2) % 2 = (r + d) % 2 by omega]
theorem S32_hi (r : Nat) (h : r % 2 = 1) : S32 r = r / 2 ^^^ 2197175160 := by
  have hb : r.testBit 0 = true := by rw [Nat.testBit_zero]; simp [h]
  unfold S32; rw [hb]; rfl
theorem S32_lo (r : Nat) (h : r % 2 = 0) : S32 r = r / 2 := by
  have hb : r.testBit 0 = false := by rw [Nat.testBit_zero]; simp [h]
  unfold S32; rw [hb]; simp
theorem S32_lt (r : Nat) (h : r < 4294967296) : S32 r < 4294967296 := by
  have h1 : r / 2 < 2 ^ 32 := by omega
  have h2 : (if r.testBit 0 then 2197175160 else 0) < 2 ^ 32 := by split <;> decide
  exact Nat.xor_lt_two_pow h1 h2
theorem T32_lt (r d : Nat) (h : r < 4294967296) : T32 r d < 4294967296 := by
  rw [T32_mod, T32_eq]
  have h2 : D32 (d % 2) < 2 ^ 32 := by unfold D32; split <;> decide
  exact Nat.xor_lt_two_pow (S32_lt r h) h2
/-- The bits of a byte, least significant first. -/
def lsb (x : Nat) : List Nat := [x % 2, x / 2 % 2, x / 4 % 2, x / 8 % 2, x / 16 % 2, x / 32 % 2, x / 64 % 2, x / 128 % 2]
theorem table32 : ∀ x, x < 256 → iter S32 8 x = chain S32 D32 0 (lsb x) := by decide +kernel
def B32 (c x : Nat) : Nat := iter S32 8 (c ^^^ x)
theorem byte32 (c x : Nat) (hx : x < 256) : chain S32 D32 c (lsb x) = B32 c x := by
  rw [chain_eq S32_lin, B32, iter_lin S32_lin, table32 x hx]; rfl
/-- k bits of a byte, as the specification does it. -/
def K32 (c x : Nat) : Nat → Nat
  | 0 => c
  | k + 1 => T32 (K32 c x k) (x / 2 ^ k)
theorem K32_byte (c x : Nat) (hx : x < 256) : K32 c x 8 = B32 c x := by
  rw [← byte32 c x hx]
  simp only [K32, lsb, chain]
  simp only [T32_mod _ (x / 2 ^ _), T32_eq]
  simp
theorem K32_lt (c x k : Nat) (hc : c < 4294967296) : K32 c x k < 4294967296 := by
  induction k with
  | zero => exact hc
  | succ k ih => exact T32_lt _ _ ih
def crc32 (c : Nat) : List Nat → Nat
  | [] => c
  | x :: l => crc32 (B32 c x) l
theorem crc32_snoc (c : Nat) (l : List Nat) (x : Nat) : crc32 c (l ++ [x]) = B32 (crc32 c l) x := by
  induction l generalizing c with
  | nil => rfl
  | cons y l ih => exact ih _
theorem iterS32_lt (n c : Nat) (h : c < 4294967296) : iter S32 n c < 4294967296 := by
  induction n generalizing c with
  | zero => exact h
  | succ n ih => exact ih _ (S32_lt c h)
theorem B32_lt (c x : Nat) (hc : c < 4294967296) (hx : x < 256) : B32 c x < 4294967296 :=
  iterS32_lt 8 _ (Nat.xor_lt_two_pow (n := 32) hc (by omega))
theorem crc32_lt (c : Nat) (l : List Nat) (hc : c < 4294967296) (hl : ∀ x ∈ l, x < 256) : crc32 c l < 4294967296 := by
  induction l generalizing c with
  | nil => exact hc
  | cons x l ih => exact ih _ (B32_lt c x hc (hl x (by simp))) (fun y hy => hl y (by simp [hy]))
end Crc
