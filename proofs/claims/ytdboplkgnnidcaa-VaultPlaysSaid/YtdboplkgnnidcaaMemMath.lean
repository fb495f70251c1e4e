/- The error-correcting memory, as lists of code words: reading, writing, inverting, scrubbing. No program in sight. -/
import Derived.Test.YtdboplkgnnidcaaEccStep
set_option linter.unusedVariables false
namespace Ecc
/-- The word at a place, repaired: what was found; the words; the number of repairs. -/
def rpr (ws : List Nat) (c at_ : Nat) : Nat × List Nat × Nat :=
  if (rep (ws.getD at_ 0)).2 = 1 then (1, ws.set at_ (rep (ws.getD at_ 0)).1, c + 1) else ((rep (ws.getD at_ 0)).2, ws, c)
def out (ws : List Nat) (i : Int) : Bool := decide (i < 0) || decide ((ws.length : Int) ≤ i)
/-- Read: the value, the error, the words, the number of repairs. -/
def mread (ws : List Nat) (c : Nat) (i : Int) : Nat × Nat × List Nat × Nat :=
  if out ws i then (0, 1, ws, c) else
  if (rpr ws c i.toNat).1 = 2 then (0, 13, ws, c) else (dat (rep (ws.getD i.toNat 0)).1, 0, (rpr ws c i.toNat).2)
def mwrite (ws : List Nat) (i : Int) (v : Nat) : Nat × List Nat := if out ws i then (1, ws) else (0, ws.set i.toNat (enc v))
def mflip (ws : List Nat) (i b : Int) : Nat × List Nat := if out ws i || decide (b < 0) || decide (38 < b) then (1, ws) else (0, ws.set i.toNat (flp (ws.getD i.toNat 0) b))
/-- k rounds of a scrub from a place on: repaired, uncorrectable, the words, the number of repairs. -/
def scr (ws : List Nat) (c at_ : Nat) : Nat → Nat × Nat × List Nat × Nat
  | 0 => (0, 0, ws, c)
  | k + 1 =>
    let s := scr ws c at_ k
    let r := rpr s.2.2.1 s.2.2.2 ((at_ + k) % ws.length)
    (if r.1 = 1 then s.1 + 1 else s.1, if r.1 = 2 then s.2.1 + 1 else s.2.1, r.2)
def rounds (ws : List Nat) (n : Int) : Nat := min n.toNat ws.length
/-- Scrub: repaired, uncorrectable, the words, the number of repairs. -/
def mscrub (ws : List Nat) (c : Nat) (i n : Int) : Nat × Nat × List Nat × Nat := if out ws i then (0, 0, ws, c) else scr ws c i.toNat (rounds ws n)
def Words (ws : List Nat) : Prop := ∀ x ∈ ws, x < 18446744073709551616
theorem Words.get {ws : List Nat} (h : Words ws) (i : Nat) : ws.getD i 0 < 18446744073709551616 := by
  by_cases hi : i < ws.length
  · have e : ws.getD i 0 = ws[i] := by simp [List.getD, hi]
    rw [e]; exact h _ (List.getElem_mem hi)
  · have e : ws.getD i 0 = 0 := by simp [List.getD, List.getElem?_eq_none (Nat.le_of_not_lt hi)]
    rw [e]; decide
theorem Words.set {ws : List Nat} (h : Words ws) (i x : Nat) (hx : x < 18446744073709551616) : Words (ws.set i x) := by
  intro y hy
  rcases List.mem_or_eq_of_mem_set hy with hy | rfl
  · exact h y hy
  · exact hx
theorem Words.rpr {ws : List Nat} (h : Words ws) (c i : Nat) : Words (rpr ws c i).2.1 := by
  unfold Ecc.rpr; split
  · exact h.set _ _ (rep_lt _ (h.get i))
  · exact h
theorem rpr_len (ws : List Nat) (c i : Nat) : (rpr ws c i).2.1.length = ws.length := by
  unfold rpr; split <;> simp
theorem rpr_cnt (ws : List Nat) (c i : Nat) : (rpr ws c i).2.2 ≤ c + 1 ∧ c ≤ (rpr ws c i).2.2 := by
  unfold rpr; split <;> simp
theorem rpr_fst (ws : List Nat) (c i : Nat) : (rpr ws c i).1 = (rep (ws.getD i 0)).2 := by
  unfold rpr; split <;> simp_all
theorem rep_again (w : Nat) (h : (rep w).2 ≠ 2) : rep (rep w).1 = ((rep w).1, 0) := by
  by_cases h39 : w / 2 ^ 39 ≠ 0
  · simp [rep, h39] at h
  · have hw : w < 2 ^ 39 := by omega
    by_cases hp : par w = 0
    · by_cases hs : syn w = 0
      · simp [rep, h39, hp, hs]
      · simp [rep, h39, hp, hs] at h
    · by_cases hs : 39 ≤ syn w
      · simp [rep, h39, hp, hs] at h
      · have e : rep w = (w ^^^ 2 ^ syn w, 1) := by simp [rep, h39, hp, hs]
        rw [e]
        have hp1 : par w = 1 := by rcases par_cases w with k | k <;> omega
        have s0 : syn (w ^^^ 2 ^ syn w) = 0 := by rw [syn_lin, syn_pow _ (by omega)]; simp
        have p0 : par (w ^^^ 2 ^ syn w) = 0 := by rw [par_lin, par_pow _ (by omega), hp1]; rfl
        have l : w ^^^ 2 ^ syn w < 2 ^ 39 := xor_lt hw (pow_lt_39 (by omega))
        simp [rep, div_zero_of_lt _ l, s0, p0]
theorem rep_zero (w : Nat) (h : (rep w).2 = 0) : (rep w).1 = w := by
  by_cases h39 : w / 2 ^ 39 ≠ 0
  · simp [rep, h39]
  · by_cases hp : par w = 0
    · by_cases hs : syn w = 0
      · simp [rep, h39, hp, hs]
      · simp [rep, h39, hp, hs] at h
    · by_cases hs : 39 ≤ syn w
      · simp [rep, h39, hp, hs] at h
      · simp [rep, h39, hp, hs] at h
theorem dec_rep (w : Nat) (h : (rep w).2 ≠ 2) : dec (rep w).1 = (dat (rep w).1, 0) := by
  unfold dec; rw [rep_again w h]; simp
/-- The word that lies at a place after its repair. -/
theorem rpr_at (ws : List Nat) (c i : Nat) (hi : i < ws.length) (h : (rpr ws c i).1 ≠ 2) : (rpr ws c i).2.1.getD i 0 = (rep (ws.getD i 0)).1 := by
  have h2 : (rep (ws.getD i 0)).2 ≠ 2 := by rw [← rpr_fst ws c i]; exact h
  unfold rpr
  split
  · simp [List.getD, hi]
  · rename_i h1
    have : (rep (ws.getD i 0)).2 = 0 := by have := rep_le2 (ws.getD i 0); omega
    exact (rep_zero _ this).symm
theorem rpr_bad (ws : List Nat) (c i : Nat) (h : (rpr ws c i).1 = 2) : (rpr ws c i).2 = (ws, c) := by
  unfold rpr at h ⊢; split
  · rename_i h1; rw [if_pos h1] at h; simp at h
  · rfl
theorem scr_len (ws : List Nat) (c a k : Nat) : (scr ws c a k).2.2.1.length = ws.length := by
  induction k with
  | zero => rfl
  | succ k ih => simp only [scr, rpr_len, ih]
theorem Words.scr {ws : List Nat} (h : Words ws) (c a k : Nat) : Words (scr ws c a k).2.2.1 := by
  induction k with
  | zero => exact h
  | succ k ih => simp only [Ecc.scr]; exact ih.rpr _ _
theorem scr_cnt (ws : List Nat) (c a k : Nat) : (scr ws c a k).2.2.2 = c + (scr ws c a k).1 ∧ (scr ws c a k).1 + (scr ws c a k).2.1 ≤ k := by
  induction k with
  | zero => simp [scr]
  | succ k ih =>
    simp only [scr]
    unfold rpr
    split
    · simp; omega
    · constructor
      · exact ih.1
      · split <;> omega
theorem scr_succ (ws : List Nat) (c a k : Nat) : scr ws c a (k + 1) =
    (if (rpr (scr ws c a k).2.2.1 (scr ws c a k).2.2.2 ((a + k) % ws.length)).1 = 1 then (scr ws c a k).1 + 1 else (scr ws c a k).1,
     if (rpr (scr ws c a k).2.2.1 (scr ws c a k).2.2.2 ((a + k) % ws.length)).1 = 2 then (scr ws c a k).2.1 + 1 else (scr ws c a k).2.1,
     (rpr (scr ws c a k).2.2.1 (scr ws c a k).2.2.2 ((a + k) % ws.length)).2) := rfl
end Ecc
