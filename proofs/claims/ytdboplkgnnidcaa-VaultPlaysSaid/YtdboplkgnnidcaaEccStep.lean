/- The steps of the loops of the error-correcting code, and the sum of the bits of a word: plain arithmetic. No program in sight. -/
import Derived.Test.YtdboplkgnnidcaaEccMath
set_option linter.unusedVariables false
namespace Ecc

theorem xf_succ (f : Nat → Nat) (n w : Nat) : xf f (n + 1) w = xf f n w ^^^ (if w.testBit n then f n else 0) := rfl
theorem bit_int (w n : Nat) : ((w : Int) / 2 ^ n % 2 == 1) = w.testBit n := by
  have h := testBit_div w n
  have e : ((w : Int) / 2 ^ n % 2) = ((w / 2 ^ n % 2 : Nat) : Int) := by simp
  rw [e, h]; cases w.testBit n <;> rfl
theorem xf_yes (f : Nat → Nat) (n w : Nat) (h : ((w : Int) / 2 ^ n % 2 == 1) = true) : xf f (n + 1) w = xf f n w ^^^ f n := by
  rw [bit_int] at h; rw [xf_succ, h]; rfl
theorem xf_no (f : Nat → Nat) (n w : Nat) (h : ((w : Int) / 2 ^ n % 2 == 1) = false) : xf f (n + 1) w = xf f n w := by
  rw [bit_int] at h; rw [xf_succ, h]; simp
theorem xf1_succ (n w : Nat) : xf (fun _ => 1) (n + 1) w = xf (fun _ => 1) n w ^^^ (w / 2 ^ n % 2) := by
  rw [xf_succ, testBit_div]

theorem low_split (w p : Nat) (h : w.testBit p = false) : w = 2 ^ (p + 1) * (w / 2 ^ (p + 1)) + w % 2 ^ p := by
  have h1 := Nat.div_add_mod w (2 ^ (p + 1))
  have h2 : w % 2 ^ (p + 1) = w % 2 ^ p := by
    have := split_top p (w % 2 ^ (p + 1)) (Nat.mod_lt _ (Nat.two_pow_pos _))
    rw [Nat.testBit_mod_two_pow, h] at this
    simp at this
    rw [this, Nat.mod_mod_of_dvd]
    exact Nat.pow_dvd_pow 2 (by omega)
  omega
theorem add_pow (w p : Nat) (h : w.testBit p = false) : w + 2 ^ p = w ^^^ 2 ^ p := by
  have e := low_split w p h
  have hl : w % 2 ^ p < 2 ^ p := Nat.mod_lt _ (Nat.two_pow_pos p)
  have hl1 : w % 2 ^ p < 2 ^ (p + 1) := by rw [Nat.pow_succ]; omega
  have hs : 2 ^ p + w % 2 ^ p < 2 ^ (p + 1) := by rw [Nat.pow_succ]; omega
  have e2 : w + 2 ^ p = 2 ^ (p + 1) * (w / 2 ^ (p + 1)) + (2 ^ p + w % 2 ^ p) := by omega
  generalize w / 2 ^ (p + 1) = a at e e2
  generalize w % 2 ^ p = b at e e2 hl hl1 hs
  rw [e2]; subst e
  apply Nat.eq_of_testBit_eq
  intro i
  rw [Nat.testBit_xor, Nat.testBit_two_pow_mul_add _ hs, Nat.testBit_two_pow_mul_add _ hl1]
  by_cases hi : i < p + 1
  · simp only [hi, if_true]
    rw [Nat.testBit_two_pow]
    by_cases hp : p = i
    · subst hp
      rw [Nat.testBit_two_pow_add_eq]; simp
    · rw [Nat.testBit_two_pow_add_gt (by omega)]; simp [hp]
  · simp only [hi, if_false]
    rw [Nat.testBit_two_pow_of_ne (by omega)]; simp
theorem or_pow (w p : Nat) (h : w.testBit p = false) : w ||| 2 ^ p = w ^^^ 2 ^ p := by
  apply Nat.eq_of_testBit_eq
  intro i
  rw [Nat.testBit_or, Nat.testBit_xor, Nat.testBit_two_pow]
  by_cases hp : p = i
  · subst hp; simp [h]
  · simp [hp]

theorem sp_free (d p : Nat) : (sp d p).testBit p = false := Nat.testBit_lt_two_pow (sp_lt d p)
/-- One round of the loop that lays the data bits: the sum. -/
theorem sp_add (d p : Nat) (h3 : 3 ≤ p) (hc : chkB p = false) : sp d p + d / 2 ^ cnt p % 2 * 2 ^ p = sp d (p + 1) := by
  have hg : ¬ (decide (p < 3) || chkB p) = true := by simp [hc]; omega
  rw [sp, if_neg hg, testBit_div]
  cases d.testBit (cnt p)
  · simp
  · have := add_pow _ _ (sp_free d p); simpa using this
theorem sp_or (d p : Nat) (h3 : 3 ≤ p) (hc : chkB p = false) : sp d p ||| d / 2 ^ cnt p % 2 * 2 ^ p = sp d (p + 1) := by
  have hg : ¬ (decide (p < 3) || chkB p) = true := by simp [hc]; omega
  rw [sp, if_neg hg, testBit_div]
  cases d.testBit (cnt p)
  · simp
  · have := or_pow _ _ (sp_free d p); simpa using this
theorem sp_skip (d p : Nat) (hc : chkB p = true) : sp d (p + 1) = sp d p := by simp [sp, hc]
theorem cnt_skip (p : Nat) (hc : chkB p = true) : cnt (p + 1) = cnt p := by simp [cnt, hc]
theorem cnt_go (p : Nat) (h3 : 3 ≤ p) (hc : chkB p = false) : cnt (p + 1) = cnt p + 1 := by
  rw [cnt, if_neg (by simp [hc]; omega)]
theorem cnt_le (p : Nat) : cnt p ≤ p := by
  induction p with
  | zero => simp [cnt]
  | succ p ih => simp only [cnt]; split <;> omega
theorem cnt_32 (p : Nat) (h : p < 39) (hc : chkB p = false) (h3 : 3 ≤ p) : cnt p < 32 := by
  have : ∀ p, p < 39 → chkB p = false → 3 ≤ p → cnt p < 32 := by decide +kernel
  exact this p h hc h3
theorem dt_free (w p : Nat) : (dt w p).testBit (cnt p) = false := Nat.testBit_lt_two_pow (dt_lt w p)
theorem dt_add (d p : Nat) (h3 : 3 ≤ p) (hc : chkB p = false) : dt d p + d / 2 ^ p % 2 * 2 ^ cnt p = dt d (p + 1) := by
  have hg : ¬ (decide (p < 3) || chkB p) = true := by simp [hc]; omega
  rw [dt, if_neg hg, testBit_div]
  cases d.testBit (p)
  · simp
  · have := add_pow _ _ (dt_free d p); simpa using this
theorem dt_or (d p : Nat) (h3 : 3 ≤ p) (hc : chkB p = false) : dt d p ||| d / 2 ^ p % 2 * 2 ^ cnt p = dt d (p + 1) := by
  have hg : ¬ (decide (p < 3) || chkB p) = true := by simp [hc]; omega
  rw [dt, if_neg hg, testBit_div]
  cases d.testBit (p)
  · simp
  · have := or_pow _ _ (dt_free d p); simpa using this
theorem dt_skip (d p : Nat) (hc : chkB p = true) : dt d (p + 1) = dt d p := by simp [dt, hc]

/-! ### The check bits -/
theorem sp_chk (d q : Nat) (hq : chkB q = true) : ∀ p, (sp d p).testBit q = false := by
  intro p
  induction p with
  | zero => simp [sp]
  | succ p ih =>
    simp only [sp]
    split
    · exact ih
    · rename_i h
      have : p ≠ q := by intro e; subst e; simp [hq] at h
      rw [Nat.testBit_xor, ih]
      split
      · rw [Nat.testBit_two_pow_of_ne this]; rfl
      · simp
theorem chk_free (s : Nat) (q : Nat) : ∀ j, (∀ i, i < j → 2 ^ i ≠ q) → (xf (fun k => 2 ^ 2 ^ k) j s).testBit q = false := by
  intro j
  induction j with
  | zero => intro _; simp [xf]
  | succ j ih =>
    intro h
    rw [xf_succ, Nat.testBit_xor, ih (fun i hi => h i (by omega))]
    split
    · rw [Nat.testBit_two_pow_of_ne (h j (by omega))]; rfl
    · simp
theorem pow_chk (j : Nat) (h : j < 6) : chkB (2 ^ j) = true := by
  have : ∀ j, j < 6 → chkB (2 ^ j) = true := by decide
  exact this j h
/-- The word after j rounds of the loop that lays the check bits. -/
def wd (d j : Nat) : Nat := sp d 39 ^^^ xf (fun k => 2 ^ 2 ^ k) j (syn (sp d 39))
theorem wd_free (d j : Nat) (h : j < 6) : (wd d j).testBit (2 ^ j) = false := by
  unfold wd
  rw [Nat.testBit_xor, sp_chk d _ (pow_chk j h), chk_free]
  · rfl
  · intro i hi e; have := Nat.pow_lt_pow_right (a := 2) (by decide) hi; omega
theorem wd_zero (d : Nat) : wd d 0 = sp d 39 := by simp [wd, xf]
theorem wd_lt (d j : Nat) (h : j ≤ 6) : wd d j < 2 ^ 39 := by
  refine xor_lt (sp_lt d 39) (xf_lt _ 39 j ?_ _)
  intro i hi; exact Nat.pow_lt_pow_right (by decide) (by have : 2 ^ i ≤ 2 ^ 5 := Nat.pow_le_pow_right (by decide) (by omega); omega)
theorem wd_succ (d j : Nat) : wd d (j + 1) = wd d j ^^^ (if (syn (sp d 39)).testBit j then 2 ^ 2 ^ j else 0) := by
  unfold wd; rw [xf_succ, Nat.xor_assoc]
theorem wd_yes (d j : Nat) (h : j < 6) (hb : ((syn (sp d 39) : Nat) : Int) / 2 ^ j % 2 = 1) : wd d j + 2 ^ 2 ^ j = wd d (j + 1) := by
  have hb : (syn (sp d 39)).testBit j = true := by rw [← bit_int]; simpa using hb
  rw [wd_succ, hb, add_pow _ _ (wd_free d j h)]; rfl
theorem wd_no (d j : Nat) (hb : ¬ ((syn (sp d 39) : Nat) : Int) / 2 ^ j % 2 = 1) : wd d (j + 1) = wd d j := by
  have hb : (syn (sp d 39)).testBit j = false := by rw [← bit_int]; simpa using hb
  rw [wd_succ, hb]; simp
theorem wd_or (d j : Nat) (h : j < 6) : wd d j ||| syn (sp d 39) / 2 ^ j % 2 * 2 ^ 2 ^ j = wd d (j + 1) := by
  rw [wd_succ, testBit_div]
  split
  · simpa using or_pow _ _ (wd_free d j h)
  · simp
theorem wd_bit0 (d : Nat) : (wd d 6).testBit 0 = false := by
  unfold wd
  rw [Nat.testBit_xor, sp_chk d 0 rfl, chk_free]
  · rfl
  · intro i _ e; have := Nat.two_pow_pos i; omega
theorem enc_add (d : Nat) : wd d 6 + par (wd d 6) = enc d := by
  show _ = wd d 6 ^^^ par (wd d 6)
  rcases par_cases (wd d 6) with h | h <;> rw [h]
  · simp
  · exact add_pow (wd d 6) 0 (wd_bit0 d)
theorem enc_or (d : Nat) : wd d 6 ||| par (wd d 6) = enc d := by
  show _ = wd d 6 ^^^ par (wd d 6)
  rcases par_cases (wd d 6) with h | h <;> rw [h]
  · simp
  · exact or_pow (wd d 6) 0 (wd_bit0 d)

/-! ### The ways through Repair, by what the walk has tested -/
theorem rep_hi (x : Nat) (h : ¬ (x : Int) / 549755813888 = 0) : rep x = (x, 2) := by
  have : x / 2 ^ 39 ≠ 0 := by omega
  simp [rep, this]
theorem rep_clean (x : Nat) (h : (x : Int) / 549755813888 = 0) (hp : par x = 0) (hs : syn x = 0) : rep x = (x, 0) := by
  have : x / 2 ^ 39 = 0 := by omega
  simp [rep, this, hp, hs]
theorem rep_even (x : Nat) (h : (x : Int) / 549755813888 = 0) (hp : par x = 0) (hs : ¬ syn x = 0) : rep x = (x, 2) := by
  have : x / 2 ^ 39 = 0 := by omega
  simp [rep, this, hp, hs]
theorem rep_far (x : Nat) (h : (x : Int) / 549755813888 = 0) (hp : ¬ par x = 0) (hs : (38 : Int) < (syn x : Nat)) : rep x = (x, 2) := by
  have : x / 2 ^ 39 = 0 := by omega
  have h2 : 39 ≤ syn x := by omega
  simp [rep, this, hp, h2]
theorem rep_fix (x : Nat) (h : (x : Int) / 549755813888 = 0) (hp : ¬ par x = 0) (hs : ((syn x : Nat) : Int) ≤ 38) : rep x = (flp x (syn x : Nat), 1) := by
  have : x / 2 ^ 39 = 0 := by omega
  have h2 : ¬ 39 ≤ syn x := by omega
  have h3 : ¬ (((syn x : Nat) : Int) < 0 ∨ (38 : Int) < (syn x : Nat)) := by omega
  simp [rep, flp, this, hp, h2]; omega
theorem rep_hi' (x : Nat) (h : ((x : Int) / 549755813888 != 0) = true) : rep x = (x, 2) := rep_hi x (by simpa using h)
theorem rep_clean' (x : Nat) (h : ((x : Int) / 549755813888 != 0) = false) (hp : par x = 0) (hs : (((syn x : Nat) : Int) == 0) = true) : rep x = (x, 0) := rep_clean x (by simpa using h) hp (by simpa using hs)
theorem rep_even' (x : Nat) (h : ((x : Int) / 549755813888 != 0) = false) (hp : par x = 0) (hs : (((syn x : Nat) : Int) == 0) = false) : rep x = (x, 2) := rep_even x (by simpa using h) hp (by simpa using hs)
theorem rep_far' (x : Nat) (h : ((x : Int) / 549755813888 != 0) = false) (hp : ¬ par x = 0) (hs : (((par x : Nat) : Int) == 0) = true ∨ (39 : Int) ≤ (syn x : Nat)) : rep x = (x, 2) := by
  refine rep_far x (by simpa using h) hp ?_
  rcases hs with hs | hs
  · exact absurd (by simpa using hs) hp
  · omega
theorem rep_fix' (x : Nat) (h : ((x : Int) / 549755813888 != 0) = false) (hp : ¬ par x = 0) (hs : (((par x : Nat) : Int) == 0) = false ∧ ((syn x : Nat) : Int) < 39) : rep x = (flp x (syn x : Nat), 1) :=
  rep_fix x (by simpa using h) hp (by omega)
theorem flp_out (x : Nat) (b : Int) (h : b < 0 ∨ 38 < b) : flp x b = x := by simp [flp, h]
theorem flp_in (x : Nat) (b : Int) (h0 : 0 ≤ b) (h : b ≤ 38) : flp x b = x ^^^ 2 ^ b.toNat := by
  have h3 : ¬ (b < 0 ∨ (38 : Int) < b) := by omega
  simp [flp, h3]
theorem flp_lt (x : Nat) (b : Int) (h : x < 18446744073709551616) : flp x b < 18446744073709551616 := by
  unfold flp; split
  · exact h
  · exact xor_lt (n := 64) h (Nat.pow_lt_pow_right (by decide) (by omega))
theorem flp_flp (x : Nat) (b : Int) : flp (flp x b) b = x := by
  unfold flp; split
  · rfl
  · exact xor_xor_self _ _
theorem dec_bad (x : Nat) (h : (((rep x).2 : Nat) : Int) == 2) : dec x = (0, 2) := by
  have : (rep x).2 = 2 := by have := eq_of_beq h; omega
  simp [dec, this]
theorem dec_good (x : Nat) (h : ((((rep x).2 : Nat) : Int) == 2) = false) : dec x = (dat (rep x).1, (rep x).2) := by
  have : ¬ (rep x).2 = 2 := by have := ne_of_beq_false h; omega
  simp [dec, this]

end Ecc
