/- The plain mathematics of the error-correcting code: exclusive-or linear functions on natural numbers, the code word, its syndrome, its repair. No program in sight. The checksums CRC-16 and CRC-32C: byte by byte as the program computes them, and bit by bit as the specification does. No program in sight. -/

set_option linter.unusedVariables false
set_option linter.unusedSimpArgs false
namespace Ecc

/-- The exclusive or of f i over the ones i < n of w. -/
def xf (f : Nat → Nat) : Nat → Nat → Nat
  | 0, _ => 0
  | n + 1, w => xf f n w ^^^ (if w.testBit n then f n else 0)

def Lin (F : Nat → Nat) : Prop := ∀ a b, F (a ^^^ b) = F a ^^^ F b

theorem xor4 (a b c d : Nat) : (a ^^^ b) ^^^ (c ^^^ d) = (a ^^^ c) ^^^ (b ^^^ d) := by
  rw [Nat.xor_assoc, Nat.xor_assoc, ← Nat.xor_assoc b c d, Nat.xor_comm b c, Nat.xor_assoc]

theorem sel_lin (x y : Bool) (v : Nat) : (if (x ^^ y) then v else 0) = (if x then v else 0) ^^^ (if y then v else 0) := by
  cases x <;> cases y <;> simp

theorem xf_lin (f : Nat → Nat) (n : Nat) : Lin (xf f n) := by
  intro a b
  induction n with
  | zero => simp [xf]
  | succ n ih =>
    simp only [xf, ih, Nat.testBit_xor, sel_lin]
    exact xor4 _ _ _ _

theorem Lin.comp {F G : Nat → Nat} (hF : Lin F) (hG : Lin G) : Lin (fun x => F (G x)) := by
  intro a b; simp only [hG a b, hF (G a) (G b)]
theorem Lin.xor {F G : Nat → Nat} (hF : Lin F) (hG : Lin G) : Lin (fun x => F x ^^^ G x) := by
  intro a b; simp only [hG a b, hF a b]; exact xor4 _ _ _ _
theorem Lin.id : Lin (fun x => x) := fun _ _ => rfl
theorem Lin.zero : Lin (fun _ => 0) := fun _ _ => by simp
theorem Lin.and (m : Nat) : Lin (fun x => x &&& m) := by
  intro a b; exact Nat.and_xor_distrib_right
theorem Lin.at_zero {F : Nat → Nat} (hF : Lin F) : F 0 = 0 := by
  have := hF 0 0; simp at this; exact this
theorem Lin.sel (k v : Nat) : Lin (fun x => if x.testBit k then v else 0) := by
  intro a b; simp only [Nat.testBit_xor, sel_lin]

theorem split_top (n x : Nat) (h : x < 2 ^ (n + 1)) : x = (x % 2 ^ n) ^^^ (if x.testBit n then 2 ^ n else 0) := by
  apply Nat.eq_of_testBit_eq
  intro i
  rw [Nat.testBit_xor, Nat.testBit_mod_two_pow]
  by_cases hi : i < n
  · have : (if x.testBit n then 2 ^ n else 0).testBit i = false := by
      split
      · rw [Nat.testBit_two_pow]; simp; omega
      · simp
    simp [hi, this]
  · by_cases he : i = n
    · subst he
      by_cases hx : x.testBit i
      · simp [hx, Nat.testBit_two_pow_self]
      · simp [hx]
    · have h1 : x.testBit i = false := Nat.testBit_lt_two_pow (Nat.lt_of_lt_of_le h (Nat.pow_le_pow_right (by decide) (by omega)))
      have h2 : (if x.testBit n then 2 ^ n else 0).testBit i = false := by
        split
        · rw [Nat.testBit_two_pow]; simp; omega
        · simp
      simp [h1, h2, hi]

/-- Two linear functions that agree at the powers of two agree. -/
theorem lin_ext {F G : Nat → Nat} (hF : Lin F) (hG : Lin G) (n : Nat) (h : ∀ k, k < n → F (2 ^ k) = G (2 ^ k)) : ∀ x, x < 2 ^ n → F x = G x := by
  induction n with
  | zero => intro x hx; have : x = 0 := by simpa using hx
            subst this; rw [hF.at_zero, hG.at_zero]
  | succ n ih =>
    intro x hx
    have e := split_top n x hx
    have hlo := ih (fun k hk => h k (by omega)) (x % 2 ^ n) (Nat.mod_lt _ (Nat.two_pow_pos n))
    rw [e, hF, hG, hlo]
    congr 1
    split
    · exact h n (by omega)
    · rw [hF.at_zero, hG.at_zero]

/-! ### The positions -/
def chkB (p : Nat) : Bool := p == 0 || p == 1 || p == 2 || p == 4 || p == 8 || p == 16 || p == 32
/-- How many positions from 3 on, below p, hold data. -/
def cnt : Nat → Nat
  | 0 => 0
  | p + 1 => if p < 3 || chkB p then cnt p else cnt p + 1
/-- The data bits laid at their positions below p. -/
def sp (d : Nat) : Nat → Nat
  | 0 => 0
  | p + 1 => if p < 3 || chkB p then sp d p else sp d p ^^^ (if d.testBit (cnt p) then 2 ^ p else 0)
/-- The data bits read from the positions below p. -/
def dt (w : Nat) : Nat → Nat
  | 0 => 0
  | p + 1 => if p < 3 || chkB p then dt w p else dt w p ^^^ (if w.testBit p then 2 ^ cnt p else 0)

def syn (w : Nat) : Nat := xf (fun i => i) 39 w
def par (w : Nat) : Nat := xf (fun _ => 1) 39 w
def chk (s : Nat) : Nat := xf (fun k => 2 ^ 2 ^ k) 6 s
def enc (d : Nat) : Nat := let w := sp d 39 ^^^ chk (syn (sp d 39)); w ^^^ par w
def dat (w : Nat) : Nat := dt w 39
def rep (w : Nat) : Nat × Nat :=
  if w / 2 ^ 39 ≠ 0 then (w, 2) else if par w = 0 then (if syn w = 0 then (w, 0) else (w, 2)) else if 39 ≤ syn w then (w, 2) else (w ^^^ 2 ^ syn w, 1)
def dec (w : Nat) : Nat × Nat := if (rep w).2 = 2 then (0, 2) else (dat (rep w).1, (rep w).2)
def flp (w : Nat) (b : Int) : Nat := if b < 0 ∨ 38 < b then w else w ^^^ 2 ^ b.toNat

theorem sp_lin (p : Nat) : Lin (fun d => sp d p) := by
  induction p with
  | zero => exact Lin.zero
  | succ p ih =>
    intro a b
    simp only [sp]
    split
    · exact ih a b
    · exact (ih.xor (Lin.sel (cnt p) (2 ^ p))) a b
theorem dt_lin (p : Nat) : Lin (fun d => dt d p) := by
  induction p with
  | zero => exact Lin.zero
  | succ p ih =>
    intro a b
    simp only [dt]
    split
    · exact ih a b
    · exact (ih.xor (Lin.sel p (2 ^ cnt p))) a b
theorem syn_lin : Lin syn := xf_lin _ _
theorem par_lin : Lin par := xf_lin _ _
theorem chk_lin : Lin chk := xf_lin _ _
theorem dat_lin : Lin dat := dt_lin 39
theorem enc_lin : Lin enc := by
  have h1 : Lin (fun d => sp d 39) := sp_lin 39
  have h2 : Lin (fun d => sp d 39 ^^^ chk (syn (sp d 39))) := h1.xor (chk_lin.comp (syn_lin.comp h1))
  exact h2.xor (par_lin.comp h2)

/-! ### Sizes -/
theorem xor_lt {a b n : Nat} (ha : a < 2 ^ n) (hb : b < 2 ^ n) : a ^^^ b < 2 ^ n := Nat.xor_lt_two_pow ha hb
theorem xf_lt (f : Nat → Nat) (m : Nat) (n : Nat) (hf : ∀ i, i < n → f i < 2 ^ m) (w : Nat) : xf f n w < 2 ^ m := by
  induction n with
  | zero => exact Nat.two_pow_pos m
  | succ n ih =>
    refine xor_lt (ih fun i hi => hf i (by omega)) ?_
    split
    · exact hf n (by omega)
    · exact Nat.two_pow_pos m
theorem sp_lt (d p : Nat) : sp d p < 2 ^ p := by
  induction p with
  | zero => simp [sp]
  | succ p ih =>
    have h : sp d p < 2 ^ (p + 1) := by rw [Nat.pow_succ]; omega
    simp only [sp]
    split
    · exact h
    · refine xor_lt h ?_
      split
      · exact Nat.pow_lt_pow_right (by decide) (by omega)
      · exact Nat.two_pow_pos _
theorem dt_lt (w p : Nat) : dt w p < 2 ^ cnt p := by
  induction p with
  | zero => simp [dt, cnt]
  | succ p ih =>
    simp only [dt, cnt]
    split
    · exact ih
    · have h : dt w p < 2 ^ (cnt p + 1) := by rw [Nat.pow_succ]; omega
      refine xor_lt h ?_
      split
      · exact Nat.pow_lt_pow_right (by decide) (by omega)
      · exact Nat.two_pow_pos _
theorem syn_lt (w : Nat) : syn w < 64 := xf_lt _ 6 39 (by intro i hi; show i < 2 ^ 6; omega) w
theorem par_lt (w : Nat) : par w < 2 := xf_lt _ 1 39 (by intro i _; show 1 < 2 ^ 1; decide) w
theorem par_cases (w : Nat) : par w = 0 ∨ par w = 1 := by have := par_lt w; omega
theorem chk_lt (s : Nat) : chk s < 2 ^ 39 := xf_lt _ 39 6 (by intro i hi; exact Nat.pow_lt_pow_right (by decide) (by have : 2 ^ i ≤ 2 ^ 5 := Nat.pow_le_pow_right (by decide) (by omega); omega)) s
theorem enc_lt (d : Nat) : enc d < 2 ^ 39 := by
  have h := xor_lt (sp_lt d 39) (chk_lt (syn (sp d 39)))
  exact xor_lt h (Nat.lt_of_lt_of_le (par_lt _) (by decide))
theorem cnt_39 : cnt 39 = 32 := by decide
theorem dat_lt (w : Nat) : dat w < 2 ^ 32 := by have := dt_lt w 39; rwa [cnt_39] at this

/-! ### The code -/
theorem syn_enc (d : Nat) (h : d < 2 ^ 32) : syn (enc d) = 0 :=
  lin_ext (syn_lin.comp enc_lin) Lin.zero 32 (by decide +kernel) d h
theorem par_enc (d : Nat) (h : d < 2 ^ 32) : par (enc d) = 0 :=
  lin_ext (par_lin.comp enc_lin) Lin.zero 32 (by decide +kernel) d h
theorem dat_enc (d : Nat) (h : d < 2 ^ 32) : dat (enc d) = d :=
  lin_ext (dat_lin.comp enc_lin) Lin.id 32 (by decide +kernel) d h
theorem syn_pow (a : Nat) (h : a < 39) : syn (2 ^ a) = a := by
  have : ∀ a, a < 39 → syn (2 ^ a) = a := by decide +kernel
  exact this a h
theorem par_pow (a : Nat) (h : a < 39) : par (2 ^ a) = 1 := by
  have : ∀ a, a < 39 → par (2 ^ a) = 1 := by decide +kernel
  exact this a h
theorem div_zero_of_lt (w : Nat) (h : w < 2 ^ 39) : w / 2 ^ 39 = 0 := Nat.div_eq_of_lt h
theorem rep_enc (d : Nat) (h : d < 2 ^ 32) : rep (enc d) = (enc d, 0) := by
  simp [rep, div_zero_of_lt _ (enc_lt d), par_enc d h, syn_enc d h]
theorem dec_enc (d : Nat) (h : d < 2 ^ 32) : dec (enc d) = (d, 0) := by
  simp [dec, rep_enc d h, dat_enc d h]
theorem pow_lt_39 {a : Nat} (h : a < 39) : 2 ^ a < 2 ^ 39 := Nat.pow_lt_pow_right (by decide) h
theorem xor_xor_self (a b : Nat) : (a ^^^ b) ^^^ b = a := by rw [Nat.xor_assoc, Nat.xor_self, Nat.xor_zero]
theorem rep_one (d a : Nat) (h : d < 2 ^ 32) (ha : a < 39) : rep (enc d ^^^ 2 ^ a) = (enc d, 1) := by
  have hs : syn (enc d ^^^ 2 ^ a) = a := by rw [syn_lin, syn_enc d h, syn_pow a ha]; simp
  have hp : par (enc d ^^^ 2 ^ a) = 1 := by rw [par_lin, par_enc d h, par_pow a ha]; simp
  have hl : enc d ^^^ 2 ^ a < 2 ^ 39 := xor_lt (enc_lt d) (pow_lt_39 ha)
  unfold rep
  rw [div_zero_of_lt _ hl, hs, hp, xor_xor_self]
  simp; omega
theorem dec_one (d a : Nat) (h : d < 2 ^ 32) (ha : a < 39) : dec (enc d ^^^ 2 ^ a) = (d, 1) := by
  simp [dec, rep_one d a h ha, dat_enc d h]
theorem xor_ne {a b : Nat} (h : a ≠ b) : a ^^^ b ≠ 0 := by
  intro e; apply h
  have : (a ^^^ b) ^^^ b = 0 ^^^ b := by rw [e]
  rw [xor_xor_self] at this; simpa using this
theorem rep_two (d a b : Nat) (h : d < 2 ^ 32) (ha : a < 39) (hb : b < 39) (hab : a ≠ b) : rep (enc d ^^^ 2 ^ a ^^^ 2 ^ b) = (enc d ^^^ 2 ^ a ^^^ 2 ^ b, 2) := by
  have hs : syn (enc d ^^^ 2 ^ a ^^^ 2 ^ b) = a ^^^ b := by rw [syn_lin, syn_lin, syn_enc d h, syn_pow a ha, syn_pow b hb]; simp
  have hp : par (enc d ^^^ 2 ^ a ^^^ 2 ^ b) = 0 := by rw [par_lin, par_lin, par_enc d h, par_pow a ha, par_pow b hb]; simp
  have hl : enc d ^^^ 2 ^ a ^^^ 2 ^ b < 2 ^ 39 := xor_lt (xor_lt (enc_lt d) (pow_lt_39 ha)) (pow_lt_39 hb)
  have hne := xor_ne hab
  unfold rep
  rw [div_zero_of_lt _ hl, hs, hp]
  simp [hne]
theorem dec_two (d a b : Nat) (h : d < 2 ^ 32) (ha : a < 39) (hb : b < 39) (hab : a ≠ b) : dec (enc d ^^^ 2 ^ a ^^^ 2 ^ b) = (0, 2) := by
  simp [dec, rep_two d a b h ha hb hab]
theorem rep_lt (w : Nat) (h : w < 2 ^ 64) : (rep w).1 < 2 ^ 64 := by
  unfold rep
  split <;> (try split) <;> (try split) <;> first | exact h | (exact xor_lt h (Nat.pow_lt_pow_right (by decide) (by omega)))
theorem rep_le2 (w : Nat) : (rep w).2 ≤ 2 := by
  unfold rep
  split <;> (try split) <;> (try split) <;> simp
theorem dec_lt (w : Nat) : (dec w).1 < 2 ^ 32 := by
  unfold dec; split
  · decide
  · exact dat_lt _
theorem dec_snd (w : Nat) : (dec w).2 = (rep w).2 := by
  unfold dec; split
  · simp_all
  · rfl

/-! ### Ones -/
def ones : Nat → Nat → Nat
  | 0, _ => 0
  | n + 1, w => ones n w + w / 2 ^ n % 2
theorem testBit_div (w n : Nat) : w / 2 ^ n % 2 = if w.testBit n then 1 else 0 := by
  rw [Nat.testBit_eq_decide_div_mod_eq]
  have : w / 2 ^ n % 2 < 2 := Nat.mod_lt _ (by decide)
  by_cases h : w / 2 ^ n % 2 = 1 <;> simp [h]
  omega
theorem one_xor (a b : Nat) (ha : a < 2) (hb : b < 2) : (a ^^^ b) = (a + b) % 2 := by
  have : ∀ a, a < 2 → ∀ b, b < 2 → (a ^^^ b) = (a + b) % 2 := by decide
  exact this a ha b hb
theorem xf1_ones (n w : Nat) : xf (fun _ => 1) n w = ones n w % 2 := by
  induction n with
  | zero => rfl
  | succ n ih =>
    simp only [xf, ones, ih, testBit_div]
    rw [one_xor _ _ (Nat.mod_lt _ (by decide)) (by split <;> decide)]
    split <;> omega
theorem ones_le (n w : Nat) : ones n w ≤ n := by
  induction n with
  | zero => simp [ones]
  | succ n ih => simp only [ones]; have : w / 2 ^ n % 2 < 2 := Nat.mod_lt _ (by decide); omega
theorem ones_high (n m w : Nat) (h : w < 2 ^ n) : ones (n + m) w = ones n w := by
  induction m with
  | zero => rfl
  | succ m ih =>
    show ones (n + m) w + w / 2 ^ (n + m) % 2 = _
    rw [ih, Nat.div_eq_of_lt (Nat.lt_of_lt_of_le h (Nat.pow_le_pow_right (by decide) (by omega)))]
    simp
/-- A word of few ones, as an exclusive or of powers. -/
theorem ones_zero (n : Nat) : ∀ w, w < 2 ^ n → ones n w = 0 → w = 0 := by
  induction n with
  | zero => intro w h _; simpa using h
  | succ n ih =>
    intro w h h0
    simp only [ones, testBit_div] at h0
    have hb : w.testBit n = false := by cases hb : w.testBit n <;> simp [hb] at h0 ⊢
    have e := split_top n w h
    simp [hb] at e
    have hl : w < 2 ^ n := by rw [e]; exact Nat.mod_lt _ (Nat.two_pow_pos n)
    exact ih w hl (by omega)
theorem ones_top (n w : Nat) (h : w < 2 ^ (n + 1)) (hb : w.testBit n = true) : ∃ v, v < 2 ^ n ∧ w = v ^^^ 2 ^ n ∧ ones (n + 1) w = ones n v + 1 := by
  refine ⟨w % 2 ^ n, Nat.mod_lt _ (Nat.two_pow_pos n), ?_, ?_⟩
  · have := split_top n w h; rwa [if_pos hb] at this
  · simp only [ones, testBit_div, hb, if_true]
    congr 1
    clear hb h
    have key : ∀ m, m ≤ n → ones m w = ones m (w % 2 ^ n) := by
      intro m
      induction m with
      | zero => intro _; rfl
      | succ m ih =>
        intro hm
        simp only [ones, testBit_div, ih (by omega), Nat.testBit_mod_two_pow]
        simp [show m < n by omega]
    exact key n (Nat.le_refl _)
theorem ones_low (n w : Nat) (h : w < 2 ^ (n + 1)) (hb : w.testBit n = false) : w < 2 ^ n ∧ ones (n + 1) w = ones n w := by
  have e := split_top n w h
  simp [hb] at e
  refine ⟨by rw [e]; exact Nat.mod_lt _ (Nat.two_pow_pos n), ?_⟩
  simp [ones, testBit_div, hb]
theorem ones_one (n : Nat) : ∀ w, w < 2 ^ n → ones n w = 1 → ∃ a, a < n ∧ w = 2 ^ a := by
  induction n with
  | zero => intro w _ h1; simp [ones] at h1
  | succ n ih =>
    intro w h h1
    cases hb : w.testBit n
    · obtain ⟨hl, ho⟩ := ones_low n w h hb
      obtain ⟨a, ha, e⟩ := ih w hl (by omega)
      exact ⟨a, by omega, e⟩
    · obtain ⟨v, hv, e, ho⟩ := ones_top n w h hb
      have hv0 := ones_zero n v hv (by omega)
      subst hv0
      exact ⟨n, by omega, by simpa using e⟩
theorem ones_two (n : Nat) : ∀ w, w < 2 ^ n → ones n w = 2 → ∃ a b, a < n ∧ b < n ∧ a ≠ b ∧ w = 2 ^ a ^^^ 2 ^ b := by
  induction n with
  | zero => intro w _ h1; simp [ones] at h1
  | succ n ih =>
    intro w h h1
    cases hb : w.testBit n
    · obtain ⟨hl, ho⟩ := ones_low n w h hb
      obtain ⟨a, b, ha, hb', hab, e⟩ := ih w hl (by omega)
      exact ⟨a, b, by omega, by omega, hab, e⟩
    · obtain ⟨v, hv, e, ho⟩ := ones_top n w h hb
      obtain ⟨a, ha, rfl⟩ := ones_one n v hv (by omega)
      exact ⟨a, n, by omega, by omega, by omega, e⟩
/-- Different code words differ in at least four bits. -/
theorem distance (a b : Nat) (ha : a < 2 ^ 32) (hb : b < 2 ^ 32) (hab : a ≠ b) : 4 ≤ ones 64 (enc a ^^^ enc b) := by
  rw [← enc_lin a b]
  have hx : a ^^^ b < 2 ^ 32 := xor_lt ha hb
  have hne := xor_ne hab
  generalize a ^^^ b = x at hx hne
  have hl := enc_lt x
  rw [show (64 : Nat) = 39 + 25 from rfl, ones_high 39 25 _ hl]
  have hp := par_enc x hx
  have hs := syn_enc x hx
  have hd := dat_enc x hx
  generalize enc x = w at hl hp hs hd
  rw [par, xf1_ones] at hp
  have h0 : ones 39 w ≠ 0 := by
    intro h0
    have := ones_zero 39 w hl h0
    subst this
    rw [dat_lin.at_zero] at hd
    exact hne hd.symm
  have h2 : ones 39 w ≠ 2 := by
    intro h2
    obtain ⟨p, q, hp', hq', hpq, rfl⟩ := ones_two 39 w hl h2
    rw [syn_lin, syn_pow p hp', syn_pow q hq'] at hs
    exact xor_ne hpq hs
  omega
end Ecc
namespace Crc
open Ecc
/-- A chain of linear steps with an injected constant. -/
def chain (S : Nat → Nat) (D : Nat → Nat) : Nat → List Nat → Nat
  | c, [] => c
  | c, d :: ds => chain S D (S c ^^^ D d) ds
def iter (S : Nat → Nat) : Nat → Nat → Nat
  | 0, c => c
  | n + 1, c => iter S n (S c)
theorem iter_lin {S : Nat → Nat} (h : Lin S) (n : Nat) : Lin (iter S n) := by
  induction n with
  | zero => exact Lin.id
  | succ n ih => intro a b; simp only [iter]; rw [h, ih]
theorem chain_lin {S D : Nat → Nat} (h : Lin S) (ds : List Nat) : ∀ a b, chain S D (a ^^^ b) ds = iter S ds.length a ^^^ chain S D b ds := by
  induction ds with
  | nil => intro a b; rfl
  | cons d ds ih =>
    intro a b
    simp only [chain, List.length_cons, iter]
    rw [h, Nat.xor_assoc, ih]
theorem chain_eq {S D : Nat → Nat} (h : Lin S) (ds : List Nat) (c : Nat) : chain S D c ds = iter S ds.length c ^^^ chain S D 0 ds := by
  have := chain_lin (D := D) h ds c 0
  rwa [Nat.xor_zero] at this
theorem iter_succ (S : Nat → Nat) (n c : Nat) : iter S (n + 1) c = S (iter S n c) := by
  induction n generalizing c with
  | zero => rfl
  | succ n ih => exact ih _
/-! ### CRC-16 -/
def S16 (c : Nat) : Nat := c * 2 % 65536 ^^^ (if c.testBit 15 then 4129 else 0)
def D16 (d : Nat) : Nat := if d = 1 then 4129 else 0
theorem mul_mod_lin : Lin (fun c => c * 2 % 65536) := by
  intro a b
  show (a ^^^ b) * 2 % 2 ^ 16 = (a * 2 % 2 ^ 16) ^^^ (b * 2 % 2 ^ 16)
  rw [← Nat.xor_mod_two_pow]
  congr 1
  have := Nat.shiftLeft_xor_distrib (a := a) (b := b) (i := 1)
  simp only [Nat.shiftLeft_eq, Nat.pow_one] at this
  exact this
theorem S16_lin : Lin S16 := mul_mod_lin.xor (Lin.sel 15 4129)
/-- One step of the specification. -/
def T16 (r d : Nat) : Nat := if (r / 32768 + d) % 2 = 1 then r * 2 % 65536 ^^^ 4129 else r * 2 % 65536
theorem T16_eq (r d : Nat) (hr : r < 65536) (hd : d < 2) : T16 r d = S16 r ^^^ D16 d := by
  unfold T16 S16 D16
  have hb : r.testBit 15 = decide (r / 32768 = 1) := by
    rw [Nat.testBit_eq_decide_div_mod_eq]
    have : r / 2 ^ 15 % 2 = r / 32768 := by show r / 32768 % 2 = _; omega
    rw [this]
  rw [hb]
  rcases (show r / 32768 = 0 ∨ r / 32768 = 1 by omega) with h | h <;> rcases (show d = 0 ∨ d = 1 by omega) with rfl | rfl <;> rw [h] <;> simp [Nat.xor_assoc]
theorem S16_hi (r : Nat) (hr : r < 65536) (h : r / 32768 = 1) : S16 r = r * 2 % 65536 ^^^ 4129 := by
  have hb : r.testBit 15 = true := by
    rw [Nat.testBit_eq_decide_div_mod_eq]
    have : r / 2 ^ 15 % 2 = r / 32768 := by show r / 32768 % 2 = _; omega
    rw [this]; simp [h]
  unfold S16; rw [hb]; rfl
theorem S16_lo (r : Nat) (h : r / 32768 = 0) : S16 r = r * 2 % 65536 := by
  have hb : r.testBit 15 = false := by
    rw [Nat.testBit_eq_decide_div_mod_eq]
    have : r / 2 ^ 15 % 2 = 0 := by show r / 32768 % 2 = _; omega
    rw [this]; rfl
  unfold S16; rw [hb]; simp
theorem S16_lt (r : Nat) : S16 r < 65536 := by
  have h1 : r * 2 % 65536 < 2 ^ 16 := Nat.mod_lt _ (by decide)
  have h2 : (if r.testBit 15 then 4129 else 0) < 2 ^ 16 := by split <;> decide
  exact Nat.xor_lt_two_pow h1 h2
theorem T16_lt (r d : Nat) (hr : r < 65536) (hd : d < 2) : T16 r d < 65536 := by
  rw [T16_eq r d hr hd]
  have h2 : D16 d < 2 ^ 16 := by unfold D16; split <;> decide
  exact Nat.xor_lt_two_pow (S16_lt r) h2
/-- The bits of a byte, most significant first. -/
def msb (x : Nat) : List Nat := [x / 128 % 2, x / 64 % 2, x / 32 % 2, x / 16 % 2, x / 8 % 2, x / 4 % 2, x / 2 % 2, x % 2]
theorem table16 : ∀ x, x < 256 → iter S16 8 (x * 256) = chain S16 D16 0 (msb x) := by decide +kernel
/-- One byte, as the program does it. -/
def B16 (c x : Nat) : Nat := iter S16 8 (c ^^^ x * 256)
theorem byte16 (c x : Nat) (hx : x < 256) : chain S16 D16 c (msb x) = B16 c x := by
  rw [chain_eq S16_lin, B16, iter_lin S16_lin, table16 x hx]; rfl
def crc16 (c : Nat) : List Nat → Nat
  | [] => c
  | x :: l => crc16 (B16 c x) l
theorem crc16_snoc (c : Nat) (l : List Nat) (x : Nat) : crc16 c (l ++ [x]) = B16 (crc16 c l) x := by
  induction l generalizing c with
  | nil => rfl
  | cons y l ih => exact ih _
theorem iterS16_lt (n c : Nat) (h : c < 65536) : iter S16 n c < 65536 := by
  induction n generalizing c with
  | zero => exact h
  | succ n ih => exact ih _ (S16_lt c)
theorem B16_lt (c x : Nat) (hc : c < 65536) (hx : x < 256) : B16 c x < 65536 := by
  refine iterS16_lt 8 _ ?_
  exact Nat.xor_lt_two_pow (n := 16) hc (by omega)
theorem crc16_lt (c : Nat) (l : List Nat) (hc : c < 65536) (hl : ∀ x ∈ l, x < 256) : crc16 c l < 65536 := by
  induction l generalizing c with
  | nil => exact hc
  | cons x l ih => exact ih _ (B16_lt c x hc (hl x (by simp))) (fun y hy => hl y (by simp [hy]))
/-- Bit i of a byte string. -/
def bitAt (l : List Nat) (i : Nat) : Nat := l.getD (i / 8) 0 / 2 ^ (7 - i % 8) % 2
/-- The specification, after i bits. -/
def R16 (c : Nat) (l : List Nat) : Nat → Nat
  | 0 => c
  | i + 1 => T16 (R16 c l i) (bitAt l i)
theorem bitAt_lt (l : List Nat) (i : Nat) : bitAt l i < 2 := Nat.mod_lt _ (by decide)
theorem R16_lt (c : Nat) (l : List Nat) (hc : c < 65536) (i : Nat) : R16 c l i < 65536 := by
  induction i with
  | zero => exact hc
  | succ i ih => exact T16_lt _ _ ih (bitAt_lt l i)
theorem bitAt_at (l : List Nat) (k j : Nat) (hj : j < 8) : bitAt l (8 * k + j) = l.getD k 0 / 2 ^ (7 - j) % 2 := by
  unfold bitAt
  rw [show (8 * k + j) / 8 = k by omega, show (8 * k + j) % 8 = j by omega]
theorem R16_byte (c : Nat) (l : List Nat) (hc : c < 65536) (k : Nat) : R16 c l (8 * k + 8) = chain S16 D16 (R16 c l (8 * k)) (msb (l.getD k 0)) := by
  have s : ∀ j, j < 8 → R16 c l (8 * k + j + 1) = S16 (R16 c l (8 * k + j)) ^^^ D16 (l.getD k 0 / 2 ^ (7 - j) % 2) := by
    intro j hj
    show T16 _ _ = _
    rw [T16_eq _ _ (R16_lt c l hc _) (bitAt_lt _ _), bitAt_at l k j hj]
  rw [s 7 (by decide), s 6 (by decide), s 5 (by decide), s 4 (by decide), s 3 (by decide), s 2 (by decide), s 1 (by decide), s 0 (by decide)]
  simp [chain, msb]
theorem R16_all (c : Nat) (l : List Nat) (hc : c < 65536) (hl : ∀ x ∈ l, x < 256) : ∀ k, k ≤ l.length → R16 c l (8 * k) = crc16 c (l.take k)
  | 0, _ => by simp [R16, crc16]
  | k + 1, hk => by
    have hx : l.getD k 0 = l[k] := by simp [List.getD, show k < l.length by omega]
    rw [show 8 * (k + 1) = 8 * k + 8 by omega, R16_byte c l hc k, R16_all c l hc hl k (by omega), hx, byte16 _ _ (hl _ (List.getElem_mem _)), List.take_succ_eq_append_getElem (by omega), crc16_snoc]
/-! ### CRC-32C -/
def S32 (c : Nat) : Nat := c / 2 ^^^ (if c.testBit 0 then 2197175160 else 0)
def D32 (d : Nat) : Nat := if d = 1 then 2197175160 else 0
theorem div_lin : Lin (fun c => c / 2) := by
  intro a b
  exact Nat.xor_div_two
theorem S32_lin : Lin S32 := div_lin.xor (Lin.sel 0 2197175160)
def T32 (r d : Nat) : Nat := if (r + d) % 2 = 1 then r / 2 ^^^ 2197175160 else r / 2
theorem T32_eq (r d : Nat) : T32 r (d % 2) = S32 r ^^^ D32 (d % 2) := by
  unfold T32 S32 D32
  have hb : r.testBit 0 = decide (r % 2 = 1) := by rw [Nat.testBit_zero]
  rw [hb]
  rcases Nat.mod_two_eq_zero_or_one r with h | h <;> rcases Nat.mod_two_eq_zero_or_one d with g | g <;> simp [h, g, Nat.add_mod, Nat.xor_assoc]
theorem T32_mod (r d : Nat) : T32 r d = T32 r (d % 2) := by
  unfold T32; rw [show (r + d % 2) % 2 = (r + d) % 2 by omega]
theorem S32_hi (r : Nat) (h : r % 2 = 1) : S32 r = r / 2 ^^^ 2197175160 := by
  have hb : r.testBit 0 = true := by rw [Nat.testBit_zero]; simp [h]
  unfold S32; rw [hb]; rfl
theorem S32_lo (r : Nat) (h : r % 2 = 0) : S32 r = r / 2 := by
  have hb : r.testBit 0 = false := by rw [Nat.testBit_zero]; simp [h]
  unfold S32; rw [hb]; simp
theorem S32_lt (r : Nat) (h : r < 4294967296) : S32 r < 4294967296 := by
  have h1 : r / 2 < 2 ^ 32 := by omega
  have h2 : (if r.testBit 0 then 2197175160 else 0) < 2 ^ 32 := by split <;> decide
  exact Nat.xor_lt_two_pow h1 h2
theorem T32_lt (r d : Nat) (h : r < 4294967296) : T32 r d < 4294967296 := by
  rw [T32_mod, T32_eq]
  have h2 : D32 (d % 2) < 2 ^ 32 := by unfold D32; split <;> decide
  exact Nat.xor_lt_two_pow (S32_lt r h) h2
/-- The bits of a byte, least significant first. -/
def lsb (x : Nat) : List Nat := [x % 2, x / 2 % 2, x / 4 % 2, x / 8 % 2, x / 16 % 2, x / 32 % 2, x / 64 % 2, x / 128 % 2]
theorem table32 : ∀ x, x < 256 → iter S32 8 x = chain S32 D32 0 (lsb x) := by decide +kernel
def B32 (c x : Nat) : Nat := iter S32 8 (c ^^^ x)
theorem byte32 (c x : Nat) (hx : x < 256) : chain S32 D32 c (lsb x) = B32 c x := by
  rw [chain_eq S32_lin, B32, iter_lin S32_lin, table32 x hx]; rfl
/-- k bits of a byte, as the specification does it. -/
def K32 (c x : Nat) : Nat → Nat
  | 0 => c
  | k + 1 => T32 (K32 c x k) (x / 2 ^ k)
theorem K32_byte (c x : Nat) (hx : x < 256) : K32 c x 8 = B32 c x := by
  rw [← byte32 c x hx]
  simp only [K32, lsb, chain]
  simp only [T32_mod _ (x / 2 ^ _), T32_eq]
  simp
theorem K32_lt (c x k : Nat) (hc : c < 4294967296) : K32 c x k < 4294967296 := by
  induction k with
  | zero => exact hc
  | succ k ih => exact T32_lt _ _ ih
def crc32 (c : Nat) : List Nat → Nat
  | [] => c
  | x :: l => crc32 (B32 c x) l
theorem crc32_snoc (c : Nat) (l : List Nat) (x : Nat) : crc32 c (l ++ [x]) = B32 (crc32 c l) x := by
  induction l generalizing c with
  | nil => rfl
  | cons y l ih => exact ih _
theorem iterS32_lt (n c : Nat) (h : c < 4294967296) : iter S32 n c < 4294967296 := by
  induction n generalizing c with
  | zero => exact h
  | succ n ih => exact ih _ (S32_lt c h)
theorem B32_lt (c x : Nat) (hc : c < 4294967296) (hx : x < 256) : B32 c x < 4294967296 :=
  iterS32_lt 8 _ (Nat.xor_lt_two_pow (n := 32) hc (by omega))
theorem crc32_lt (c : Nat) (l : List Nat) (hc : c < 4294967296) (hl : ∀ x ∈ l, x < 256) : crc32 c l < 4294967296 := by
  induction l generalizing c with
  | nil => exact hc
  | cons x l ih => exact ih _ (B32_lt c x hc (hl x (by simp))) (fun y hy => hl y (by simp [hy]))
end Crc
