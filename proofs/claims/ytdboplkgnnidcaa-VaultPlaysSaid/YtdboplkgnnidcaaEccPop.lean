/- The number of ones of a word, as the library counts them. No program in sight. -/
import Derived.Test.YtdboplkgnnidcaaEccStep
set_option linter.unusedVariables false
namespace Ecc
/-! ### The number of ones, as a processor's library counts them -/
theorem and_split (a b c d : Nat) (n : Nat) (ha : a < 2 ^ n) (hc : c < 2 ^ n) : (2 ^ n * b + a) &&& (2 ^ n * d + c) = 2 ^ n * (b &&& d) + (a &&& c) := by
  apply Nat.eq_of_testBit_eq
  intro i
  have hac : a &&& c < 2 ^ n := Nat.and_lt_two_pow a hc
  rw [Nat.testBit_and, Nat.testBit_two_pow_mul_add _ ha, Nat.testBit_two_pow_mul_add _ hc, Nat.testBit_two_pow_mul_add _ hac]
  split <;> rw [Nat.testBit_and]
theorem ones_add (n m w : Nat) : ones (n + m) w = ones n w + ones m (w / 2 ^ n) := by
  induction m with
  | zero => simp [ones]
  | succ m ih =>
    show ones (n + m) w + w / 2 ^ (n + m) % 2 = ones n w + (ones m (w / 2 ^ n) + w / 2 ^ n / 2 ^ m % 2)
    rw [ih, Nat.div_div_eq_div_mul, ← Nat.pow_add]; omega
theorem ones_mod (n w : Nat) : ones n (w % 2 ^ n) = ones n w := by
  have key : ∀ m, m ≤ n → ones m (w % 2 ^ n) = ones m w := by
    intro m
    induction m with
    | zero => intro _; rfl
    | succ m ih =>
      intro hm
      simp only [ones, testBit_div, ih (by omega), Nat.testBit_mod_two_pow]
      simp [show m < n by omega]
  exact key n (Nat.le_refl _)
/-- The first three steps, on words of k bytes. -/
def m1 : Nat → Nat | 0 => 0 | k + 1 => 256 * m1 k + 0x55
def m2 : Nat → Nat | 0 => 0 | k + 1 => 256 * m2 k + 0x33
def m3 : Nat → Nat | 0 => 0 | k + 1 => 256 * m3 k + 0x0f
def st1 (k x : Nat) : Nat := (x / 2 &&& m1 k) + (x &&& m1 k)
def st2 (k x : Nat) : Nat := (x / 4 &&& m2 k) + (x &&& m2 k)
def st3 (k x : Nat) : Nat := (x / 16 + x) &&& m3 k
def by8 : Nat → Nat → Nat | 0, _ => 0 | k + 1, x => 256 * by8 k (x / 256) + ones 8 (x % 256)
theorem and8 (a b c d : Nat) (ha : a < 256) (hc : c < 256) : (256 * b + a) &&& (256 * d + c) = 256 * (b &&& d) + (a &&& c) := and_split a b c d 8 ha hc
theorem st1_step (k h l : Nat) (hl : l < 256) : st1 (k + 1) (256 * h + l) = 256 * st1 k h + st1 1 l := by
  have e1 : (256 * h + l) / 2 = 256 * (h / 2) + (l / 2 + 128 * (h % 2)) := by omega
  have e2 : (l / 2 + 128 * (h % 2)) &&& 0x55 = l / 2 &&& 0x55 := by
    have : ∀ l, l < 256 → ∀ b, b < 2 → (l / 2 + 128 * b) &&& 0x55 = l / 2 &&& 0x55 := by decide +kernel
    exact this l hl _ (Nat.mod_lt _ (by decide))
  simp only [st1, m1, Nat.mul_zero, Nat.zero_add]
  rw [e1, and8 _ _ _ _ (by omega) (by decide), and8 _ _ _ _ hl (by decide), e2]
  omega
theorem st2_step (k h l : Nat) (hl : l < 256) : st2 (k + 1) (256 * h + l) = 256 * st2 k h + st2 1 l := by
  have e1 : (256 * h + l) / 4 = 256 * (h / 4) + (l / 4 + 64 * (h % 4)) := by omega
  have e2 : (l / 4 + 64 * (h % 4)) &&& 0x33 = l / 4 &&& 0x33 := by
    have : ∀ l, l < 256 → ∀ b, b < 4 → (l / 4 + 64 * b) &&& 0x33 = l / 4 &&& 0x33 := by decide +kernel
    exact this l hl _ (Nat.mod_lt _ (by decide))
  simp only [st2, m2, Nat.mul_zero, Nat.zero_add]
  rw [e1, and8 _ _ _ _ (by omega) (by decide), and8 _ _ _ _ hl (by decide), e2]
  omega
theorem st1_lt (k : Nat) : ∀ x, x < 256 ^ k → st1 k x < 256 ^ k := by
  induction k with
  | zero => intro x _; simp [st1, m1]
  | succ k ih =>
    intro x hx
    have e : x = 256 * (x / 256) + x % 256 := by omega
    have hl : x % 256 < 256 := Nat.mod_lt _ (by decide)
    rw [e, st1_step k _ _ hl]
    have h1 := ih (x / 256) (by rw [Nat.pow_succ] at hx; omega)
    have h2 : st1 1 (x % 256) < 256 := by
      have : ∀ l, l < 256 → st1 1 l < 256 := by decide +kernel
      exact this _ hl
    rw [Nat.pow_succ]; omega
/-- The third step needs that the fields are small: no carry out of a byte. -/
theorem st3_step (k h l : Nat) (hl : l < 256) (hs : l / 16 % 16 + l % 16 < 16) (hh : h % 16 + l / 16 < 16) : st3 (k + 1) (256 * h + l) = 256 * st3 k h + st3 1 l := by
  have e1 : (256 * h + l) / 16 + (256 * h + l) = 256 * (h / 16 + h) + (l / 16 + 16 * (h % 16) + l) := by omega
  have hb : l / 16 + 16 * (h % 16) + l < 256 := by omega
  have e2 : (l / 16 + 16 * (h % 16) + l) &&& 0x0f = (l / 16 + l) &&& 0x0f := by
    rw [show (0x0f : Nat) = 2 ^ 4 - 1 from rfl, Nat.and_two_pow_sub_one_eq_mod, Nat.and_two_pow_sub_one_eq_mod]; omega
  have e3 : l / 16 + l < 256 := by omega
  simp only [st3, m3]
  rw [e1, and8 _ _ _ _ hb (by decide), e2]
def F (k x : Nat) : Nat := st2 k (st1 k x)
theorem F_one (l : Nat) (h : l < 256) : F 1 l % 16 ≤ 4 ∧ F 1 l / 16 ≤ 4 ∧ st3 1 (F 1 l) = ones 8 l ∧ st1 1 l < 256 := by
  have : ∀ l, l < 256 → F 1 l % 16 ≤ 4 ∧ F 1 l / 16 ≤ 4 ∧ st3 1 (F 1 l) = ones 8 l ∧ st1 1 l < 256 := by decide +kernel
  exact this l h
theorem F_step (k x : Nat) : F (k + 1) x = 256 * F k (x / 256) + F 1 (x % 256) := by
  have hl : x % 256 < 256 := Nat.mod_lt _ (by decide)
  have e : x = 256 * (x / 256) + x % 256 := by omega
  have h1 := (F_one _ hl).2.2.2
  show st2 (k + 1) (st1 (k + 1) x) = _
  conv => lhs; rw [e]
  rw [st1_step k _ _ hl, st2_step k _ _ h1]
  rfl
theorem F_nib (k x : Nat) : F k x % 16 ≤ 4 := by
  cases k with
  | zero => simp [F, st2, m2]
  | succ k => have := (F_one (x % 256) (Nat.mod_lt _ (by decide))).1; rw [F_step]; omega
theorem F_le (k : Nat) : ∀ x, 255 * F k x + 68 ≤ 68 * 256 ^ k := by
  induction k with
  | zero => intro x; simp [F, st2, m2]
  | succ k ih =>
    intro x
    have h := F_one (x % 256) (Nat.mod_lt _ (by decide))
    have := ih (x / 256)
    rw [F_step, Nat.pow_succ]; omega
theorem G_eq (k : Nat) : ∀ x, st3 k (F k x) = by8 k x := by
  induction k with
  | zero => intro x; simp [st3, m3, by8]
  | succ k ih =>
    intro x
    have h := F_one (x % 256) (Nat.mod_lt _ (by decide))
    have hn := F_nib k (x / 256)
    rw [F_step, st3_step k _ _ (by omega) (by omega) (by omega), ih, h.2.2.1]; rfl
theorem ones8 (x : Nat) : ones 8 (x % 256) ≤ 8 := ones_le 8 _
theorem by8_ones (x : Nat) : ones 64 x = ones 8 (x % 256) + ones 8 (x / 256 % 256) + ones 8 (x / 256 / 256 % 256) + ones 8 (x / 256 / 256 / 256 % 256) + ones 8 (x / 256 / 256 / 256 / 256 % 256) + ones 8 (x / 256 / 256 / 256 / 256 / 256 % 256) + ones 8 (x / 256 / 256 / 256 / 256 / 256 / 256 % 256) + ones 8 (x / 256 / 256 / 256 / 256 / 256 / 256 / 256 % 256) := by
  have hm : ∀ y, ones 8 (y % 256) = ones 8 y := fun y => ones_mod 8 y
  have hs : ∀ n y, ones (8 + n) y = ones 8 y + ones n (y / 256) := fun n y => ones_add 8 n y
  simp only [hm]
  rw [show (64 : Nat) = 8 + (8 + (8 + (8 + (8 + (8 + (8 + (8 + 0))))))) from rfl]
  simp only [hs]
  simp only [ones]; omega
theorem four (a b c d e b0 b1 b2 b3 : Nat) (ha : a = 256 * b + b0) (hb : b = 256 * c + b1) (hc : c = 256 * d + b2) (hd : d = 256 * e + b3) (h0 : b0 ≤ 8) (h1 : b1 ≤ 8) (h2 : b2 ≤ 8) (h3 : b3 ≤ 8) :
    ∃ r, r ≤ 134744072 ∧ a = 4294967296 * e + r :=
  ⟨16777216 * b3 + 65536 * b2 + 256 * b1 + b0, by omega, by subst hd; subst hc; subst hb; omega⟩
theorem two (a b c d b0 b1 b2 : Nat) (ha : a = 256 * b + b0) (hb : b = 256 * c + b1) (hc : c = 256 * d + b2) (h0 : b0 ≤ 8) (h1 : b1 ≤ 8) (h2 : b2 ≤ 8) : (a + b) / 65536 = c + d := by
  have e : a + b = 65536 * (c + d) + (256 * (b1 + b2) + (b0 + b1)) := by omega
  rw [e, Nat.mul_add_div (by decide), Nat.div_eq_of_lt (by omega)]; omega
theorem one (a b b0 : Nat) (ha : a = 256 * b + b0) (h0 : b0 ≤ 8) : a / 256 = b := by omega
theorem sumq (a b c d e f g h p q r s : Nat) (ha : a = 4294967296 * e + p) (hb : b = 4294967296 * f + q) (hc : c = 4294967296 * g + r) (hd : d = 4294967296 * h + s)
    (hp : p ≤ 134744072) (hq : q ≤ 134744072) (hr : r ≤ 134744072) (hs : s ≤ 134744072) : (a + b + (c + d)) / 4294967296 = e + f + (g + h) := by
  have e : a + b + (c + d) = 4294967296 * (e + f + (g + h)) + (p + q + (r + s)) := by subst ha; subst hb; subst hc; subst hd; clear hp hq hr hs; omega
  rw [e, Nat.mul_add_div (by decide), Nat.div_eq_of_lt (by omega)]; rfl
theorem low (a b c : Nat) (h : a = 256 * b + c) : b ≤ a := by omega
theorem top (a b r s : Nat) (h : a = 4294967296 * b + r) (hr : r ≤ 134744072) (hb : b = 4294967296 * 0 + s) (hs : s ≤ 134744072) : a ≤ 578721382844598280 := by omega
theorem sum8 (y0 y1 y2 y3 y4 y5 y6 y7 b0 b1 b2 b3 b4 b5 b6 b7 : Nat) (hS : b0 + b1 + b2 + b3 + b4 + b5 + b6 + b7 < 128)
    (e0 : y0 = 256 * y1 + b0) (e1 : y1 = 256 * y2 + b1) (e2 : y2 = 256 * y3 + b2) (e3 : y3 = 256 * y4 + b3) (e4 : y4 = 256 * y5 + b4) (e5 : y5 = 256 * y6 + b5) (e6 : y6 = 256 * y7 + b6) (e7 : y7 = 256 * 0 + b7) :
    (y0 + y1 + (y2 + y3) + (y4 + y5 + (y6 + y7))) % 128 = b0 + b1 + b2 + b3 + b4 + b5 + b6 + b7 := by
  have e : y0 + y1 + (y2 + y3) + (y4 + y5 + (y6 + y7)) = 128 * (2 * y1 + 2 * y2 + 2 * y3 + 2 * y4 + 2 * y5 + 2 * y6 + 2 * y7) + (b0 + b1 + b2 + b3 + b4 + b5 + b6 + b7) := by
    clear hS
    calc y0 + y1 + (y2 + y3) + (y4 + y5 + (y6 + y7)) = (256 * y1 + b0) + (256 * y2 + b1) + ((256 * y3 + b2) + (256 * y4 + b3)) + ((256 * y5 + b4) + (256 * y6 + b5) + ((256 * y7 + b6) + (256 * 0 + b7))) := by rw [← e0, ← e1, ← e2, ← e3, ← e4, ← e5, ← e6, ← e7]
      _ = _ := by clear e0 e1 e2 e3 e4 e5 e6 e7; omega
  rw [e, Nat.mul_add_mod, Nat.mod_eq_of_lt hS]
theorem le8 (y0 y1 y2 y3 y4 y5 y6 y7 : Nat) (l1 : y1 ≤ y0) (l2 : y2 ≤ y1) (l3 : y3 ≤ y2) (l4 : y4 ≤ y3) (l5 : y5 ≤ y4) (l6 : y6 ≤ y5) (l7 : y7 ≤ y6) (l0 : y0 ≤ 578721382844598280) :
    y0 + y1 < 18446744073709551616 ∧ y0 + y1 + (y2 + y3) < 18446744073709551616 ∧ y0 + y1 + (y2 + y3) + (y4 + y5 + (y6 + y7)) < 18446744073709551616 := by omega
theorem fold8 (y0 y1 y2 y3 y4 y5 y6 y7 b0 b1 b2 b3 b4 b5 b6 b7 : Nat) (h0 : b0 ≤ 8) (h1 : b1 ≤ 8) (h2 : b2 ≤ 8) (h3 : b3 ≤ 8) (h4 : b4 ≤ 8) (h5 : b5 ≤ 8) (h6 : b6 ≤ 8) (h7 : b7 ≤ 8)
    (e0 : y0 = 256 * y1 + b0) (e1 : y1 = 256 * y2 + b1) (e2 : y2 = 256 * y3 + b2) (e3 : y3 = 256 * y4 + b3) (e4 : y4 = 256 * y5 + b4) (e5 : y5 = 256 * y6 + b5) (e6 : y6 = 256 * y7 + b6) (e7 : y7 = 256 * 0 + b7) :
    ∃ z1 z2 z3, z1 = y0 + y0 / 256 ∧ z2 = z1 + z1 / 65536 ∧ z3 = z2 + z2 / 4294967296 ∧ z3 % 128 = b0 + b1 + b2 + b3 + b4 + b5 + b6 + b7 ∧ z1 < 18446744073709551616 ∧ z2 < 18446744073709551616 ∧ z3 < 18446744073709551616 := by
  have q0 : y0 / 256 = y1 := one _ _ _ e0 h0
  have q1 := two y0 y1 y2 y3 b0 b1 b2 e0 e1 e2 h0 h1 h2
  obtain ⟨r0, k0, f0⟩ := four y0 y1 y2 y3 y4 b0 b1 b2 b3 e0 e1 e2 e3 h0 h1 h2 h3
  obtain ⟨r1, k1, f1⟩ := four y1 y2 y3 y4 y5 b1 b2 b3 b4 e1 e2 e3 e4 h1 h2 h3 h4
  obtain ⟨r2, k2, f2⟩ := four y2 y3 y4 y5 y6 b2 b3 b4 b5 e2 e3 e4 e5 h2 h3 h4 h5
  obtain ⟨r3, k3, f3⟩ := four y3 y4 y5 y6 y7 b3 b4 b5 b6 e3 e4 e5 e6 h3 h4 h5 h6
  obtain ⟨r4, k4, f4⟩ := four y4 y5 y6 y7 0 b4 b5 b6 b7 e4 e5 e6 e7 h4 h5 h6 h7
  have q2 := sumq _ _ _ _ _ _ _ _ _ _ _ _ f0 f1 f2 f3 k0 k1 k2 k3
  have l := le8 y0 y1 y2 y3 y4 y5 y6 y7 (low _ _ _ e0) (low _ _ _ e1) (low _ _ _ e2) (low _ _ _ e3) (low _ _ _ e4) (low _ _ _ e5) (low _ _ _ e6) (top _ _ _ _ f0 k0 f4 k4)
  have hS : b0 + b1 + b2 + b3 + b4 + b5 + b6 + b7 < 128 := by clear e0 e1 e2 e3 e4 e5 e6 e7 f0 f1 f2 f3 f4 q0 q1 q2 l k0 k1 k2 k3 k4; omega
  exact ⟨y0 + y1, y0 + y1 + (y2 + y3), y0 + y1 + (y2 + y3) + (y4 + y5 + (y6 + y7)), by rw [q0], by rw [q1], by rw [q2], sum8 _ _ _ _ _ _ _ _ _ _ _ _ _ _ _ _ hS e0 e1 e2 e3 e4 e5 e6 e7, l.1, l.2.1, l.2.2⟩
theorem by8_succ (k x : Nat) : by8 (k + 1) x = 256 * by8 k (x / 256) + ones 8 (x % 256) := rfl
theorem F_lt (x : Nat) : F 8 x + F 8 x / 16 < 18446744073709551616 := by have := F_le 8 x; omega
/-- The whole count, as the library's text has it. -/
theorem count (x : Nat) : ∃ z1 z2 z3, z1 = st3 8 (F 8 x) + st3 8 (F 8 x) / 256 ∧ z2 = z1 + z1 / 65536 ∧ z3 = z2 + z2 / 4294967296 ∧ z3 % 128 = ones 64 x ∧ z1 < 18446744073709551616 ∧ z2 < 18446744073709551616 ∧ z3 < 18446744073709551616 := by
  rw [G_eq 8 x, by8_ones]
  exact fold8 _ _ _ _ _ _ _ _ _ _ _ _ _ _ _ _ (ones8 x) (ones8 _) (ones8 _) (ones8 _) (ones8 _) (ones8 _) (ones8 _) (ones8 _)
    (by8_succ 7 _) (by8_succ 6 _) (by8_succ 5 _) (by8_succ 4 _) (by8_succ 3 _) (by8_succ 2 _) (by8_succ 1 _) (by8_succ 0 _)
end Ecc
