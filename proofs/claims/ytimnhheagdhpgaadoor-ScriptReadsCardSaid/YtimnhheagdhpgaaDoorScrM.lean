/- The plain law of the scenario language: words, numbers, bytes, acts; what is read is what is written. No program in sight. -/
import Derived.Lib.AtoiAllCases
import Derived.Lib.ItoaNum
set_option linter.unusedSimpArgs false
set_option linter.unusedVariables false
open Go Go.Lib
namespace Scr
abbrev Str := List UInt8

/-! ### The numbers -/

def small (n : Int) : Bool := decide (-1099511627776 ≤ n ∧ n ≤ 1099511627776)

theorem dec_digit {d : Nat} (h : d < 10) : (UInt8.ofNat (48 + d)).toNat = 48 + d := by
  rw [UInt8.toNat_ofNat']; omega

theorem parse_app : ∀ (l : List UInt8) (c : UInt8) (acc : Nat), parseUint10 acc (l ++ [c]) = match parseUint10 acc l with | .ok u => parseUint10 u [c] | e => e
  | [], c, acc => by simp [parseUint10]
  | a :: r, c, acc => by
    simp only [List.cons_append, parseUint10]
    split
    · split
      · rfl
      · split
        · rfl
        · rw [parse_app r c]; simp only [parseUint10]
    · rfl

theorem parse_dec (u : Nat) (h : u < 1844674407370955161) : parseUint10 0 (decDigits u) = .ok u := by
  induction u using Nat.strongRecOn with
  | ind u ih =>
    rw [decDigits]
    by_cases h10 : u < 10
    · rw [dif_pos h10]
      have e := dec_digit h10
      simp only [parseUint10]
      rw [e]
      rw [if_pos (by omega), if_neg (by omega), if_neg (by omega)]
      simp
    · rw [dif_neg h10, parse_app, ih (u / 10) (by omega) (by omega)]
      have e := dec_digit (d := u % 10) (by omega)
      simp only [parseUint10]
      rw [e, if_pos (by omega), if_neg (by omega), if_neg (by omega)]
      congr 1
      omega

theorem dec_ne (u : Nat) : decDigits u ≠ [] := by
  rw [decDigits]; split <;> simp

theorem dec_all (u : Nat) : ∀ c ∈ decDigits u, 48 ≤ c.toNat ∧ c.toNat ≤ 57 := by
  induction u using Nat.strongRecOn with
  | ind u ih =>
    rw [decDigits]
    split
    · intro c hc
      rw [List.mem_singleton] at hc; subst hc
      rw [dec_digit (by omega)]; omega
    · intro c hc
      rw [List.mem_append, List.mem_singleton] at hc
      rcases hc with hc | hc
      · exact ih (u / 10) (by omega) c hc
      · subst hc; rw [dec_digit (by omega)]; omega

theorem mag_dec (u : Nat) (h : u < 1844674407370955161) : parseMag (decDigits u) = .ok u := by
  unfold parseMag; rw [if_neg (dec_ne u), parse_dec u h]

theorem atoi_itoa (n : Int) (h : small n = true) : atoiAll (itoa n) = .ok n := by
  simp only [small, decide_eq_true_eq] at h
  unfold itoa
  split
  · rename_i hn
    rw [atoiAll_minus, mag_dec _ (by omega)]
    simp only [signed]
    rw [if_neg (by omega)]
    congr 1; omega
  · rename_i hn
    have m := mag_dec n.toNat (by omega)
    have a := dec_all n.toNat
    cases hd : decDigits n.toNat with
    | nil => exact absurd hd (dec_ne _)
    | cons c r =>
      have hc := a c (by rw [hd]; exact List.mem_cons_self ..)
      rw [hd] at m
      rw [atoiAll_plain c r (by omega) (by omega), m]
      simp only [signless]
      rw [if_neg (by omega)]
      congr 1; omega

def numV (w : Str) : Option Int :=
  match atoiAll w with
  | .ok n => if itoa n = w ∧ small n = true then some n else none
  | _ => none

theorem numV_itoa {n : Int} (h : small n = true) : numV (itoa n) = some n := by
  unfold numV; rw [atoi_itoa n h]; simp [h]

theorem numV_some {w : Str} {n : Int} (h : numV w = some n) : w = itoa n ∧ small n = true := by
  unfold numV at h
  split at h
  · split at h
    · rename_i hh; injection h with h; subst h; exact ⟨hh.1.symm, hh.2⟩
    · cases h
  · cases h

/-- R.number: the digits among the first 15 bytes, with a sign ahead. -/
def magR (acc : Int) (l : Str) : Int := l.foldl (fun n c => if 48 ≤ c.toNat ∧ c.toNat ≤ 57 then n * 10 + ((c.toNat : Int) - 48) else n) acc
def rnum (w : Str) : Int := if w.head? = some 45 then -magR 0 (w.take 15) else magR 0 (w.take 15)

theorem magR_dec (u : Nat) : magR 0 (decDigits u) = u := by
  induction u using Nat.strongRecOn with
  | ind u ih =>
    rw [decDigits]
    split
    · rename_i h
      have e := dec_digit h
      simp only [magR, List.foldl_cons, List.foldl_nil]
      rw [e, if_pos (by omega)]; omega
    · rename_i h
      have e := dec_digit (d := u % 10) (by omega)
      have i := ih (u / 10) (by omega)
      simp only [magR] at i ⊢
      rw [List.foldl_append, i]
      simp only [List.foldl_cons, List.foldl_nil]
      rw [e, if_pos (by omega)]; omega

theorem dec_len (u : Nat) (h : u < 10 ^ 13) : (decDigits u).length ≤ 13 := by
  rw [decDigits_length]
  by_cases h0 : nDigits u ≤ 13
  · exact h0
  · exfalso
    have key : ∀ k u : Nat, u < 10 ^ (k + 1) → nDigits u ≤ k + 1 := by
      intro k
      induction k with
      | zero => intro u hu; rw [nDigits_small (by simpa using hu)]; exact Nat.le_refl _
      | succ k ih =>
        intro u hu
        by_cases hs : u < 10
        · rw [nDigits_small hs]; omega
        · rw [nDigits_big hs]
          have := ih (u / 10) (by rw [Nat.pow_succ] at hu; omega)
          omega
    exact h0 (key 12 u h)

theorem rnum_itoa {n : Int} (h : small n = true) : rnum (itoa n) = n := by
  simp only [small, decide_eq_true_eq] at h
  unfold itoa
  split
  · rename_i hn
    have hl := dec_len n.natAbs (by omega)
    simp only [rnum, List.head?_cons, if_true]
    rw [List.take_of_length_le (by simp; omega)]
    have e : magR 0 (45 :: decDigits n.natAbs) = magR 0 (decDigits n.natAbs) := by
      simp only [magR, List.foldl_cons]; rfl
    rw [e, magR_dec]; omega
  · rename_i hn
    have hl := dec_len n.toNat (by omega)
    have a := dec_all n.toNat
    rw [rnum, if_neg, List.take_of_length_le (by omega), magR_dec]
    · omega
    · intro hh
      have := a 45 (List.mem_of_mem_head? hh)
      revert this; decide

theorem itoa_ne (n : Int) : itoa n ≠ [] := by
  unfold itoa; split
  · simp
  · exact dec_ne _

theorem itoa_all (n : Int) : ∀ c ∈ itoa n, c = 45 ∨ (48 ≤ c.toNat ∧ c.toNat ≤ 57) := by
  unfold itoa; split
  · intro c hc
    rcases List.mem_cons.1 hc with h | h
    · exact Or.inl h
    · exact Or.inr (dec_all _ c h)
  · intro c hc; exact Or.inr (dec_all _ c hc)

theorem itoa_head (n : Int) : (itoa n).head? ≠ some 120 := by
  intro h
  rcases itoa_all n 120 (List.mem_of_mem_head? h) with h | h
  · revert h; decide
  · revert h; decide

/-! ### The bytes -/

def hexC (n : Nat) : UInt8 := if n < 10 then UInt8.ofNat (48 + n) else UInt8.ofNat (87 + n)
def hexB : List UInt8 → Str
  | [] => []
  | c :: r => hexC (c.toNat / 16) :: hexC (c.toNat % 16) :: hexB r
def hexV (b : List UInt8) : Str := 120 :: hexB b

def valC (c : UInt8) : Option Nat :=
  if 48 ≤ c.toNat ∧ c.toNat ≤ 57 then some (c.toNat - 48) else if 97 ≤ c.toNat ∧ c.toNat ≤ 102 then some (c.toNat - 87) else none

def pairV : Str → Option (List UInt8)
  | a :: b :: r => match valC a, valC b, pairV r with
    | some x, some y, some t => some (UInt8.ofNat (16 * x + y) :: t)
    | _, _, _ => none
  | _ => some []

def bytesV (w : Str) (most : Nat) : Option (List UInt8) :=
  match w with
  | [] => none
  | c :: r => if c = 120 ∧ r.length % 2 = 0 ∧ r.length ≤ 2 * most then pairV r else none

/-- R.digit, R.bytes. -/
def digR (c : UInt8) : Nat := (valC c).getD 0
def pairR : Str → List UInt8
  | a :: b :: r => UInt8.ofNat (16 * digR a + digR b) :: pairR r
  | _ => []
def bytesR (w : Str) : List UInt8 := pairR (w.drop 1)

theorem valC_hexC {n : Nat} (h : n < 16) : valC (hexC n) = some n := by
  have : ∀ n : Fin 16, valC (hexC n.val) = some n.val := by decide
  exact this ⟨n, h⟩

theorem hexC_valC {c : UInt8} {n : Nat} (h : valC c = some n) : hexC n = c ∧ n < 16 := by
  unfold valC at h
  split at h
  · injection h with h; subst h
    refine ⟨?_, by omega⟩
    apply UInt8.toNat_inj.1
    unfold hexC
    rw [if_pos (by omega), UInt8.toNat_ofNat']; omega
  · split at h
    · injection h with h; subst h
      refine ⟨?_, by omega⟩
      apply UInt8.toNat_inj.1
      unfold hexC
      rw [if_neg (by omega), UInt8.toNat_ofNat']; omega
    · cases h

theorem pairV_hexB : ∀ b : List UInt8, pairV (hexB b) = some b
  | [] => rfl
  | c :: r => by
    have hc := c.toNat_lt
    simp only [hexB, pairV, valC_hexC (show c.toNat / 16 < 16 by omega), valC_hexC (show c.toNat % 16 < 16 by omega), pairV_hexB r]
    congr 2
    apply UInt8.toNat_inj.1
    rw [UInt8.toNat_ofNat']; omega

theorem hexB_len : ∀ b : List UInt8, (hexB b).length = 2 * b.length
  | [] => rfl
  | c :: r => by simp only [hexB, List.length_cons, hexB_len r]; omega

theorem hexB_pairV : ∀ (w : Str) (b : List UInt8), w.length % 2 = 0 → pairV w = some b → w = hexB b
  | [], b, _, h => by simp only [pairV] at h; injection h with h; subst h; rfl
  | [a], b, h2, _ => by simp at h2
  | a :: c :: r, b, h2, h => by
    simp only [pairV] at h
    split at h
    · rename_i x y t hx hy ht
      injection h with h; subst h
      obtain ⟨ex, lx⟩ := hexC_valC hx
      obtain ⟨ey, ly⟩ := hexC_valC hy
      have e := hexB_pairV r t (by simp only [List.length_cons] at h2; omega) ht
      have v : (UInt8.ofNat (16 * x + y)).toNat = 16 * x + y := by rw [UInt8.toNat_ofNat']; omega
      simp only [hexB, v]
      rw [show (16 * x + y) / 16 = x by omega, show (16 * x + y) % 16 = y by omega, ex, ey, ← e]
    · cases h

theorem pairR_pairV : ∀ (w : Str) (b : List UInt8), pairV w = some b → pairR w = b
  | [], b, h => by simp only [pairV] at h; injection h
  | [a], b, h => by simp only [pairV] at h; injection h
  | a :: c :: r, b, h => by
    simp only [pairV] at h
    split at h
    · rename_i x y t hx hy ht
      injection h with h; subst h
      simp only [pairR, digR, hx, hy, Option.getD_some, pairR_pairV r t ht]
    · cases h

theorem bytesV_hexV {b : List UInt8} {most : Nat} (h : b.length ≤ most) : bytesV (hexV b) most = some b := by
  simp only [bytesV, hexV]
  rw [if_pos ⟨trivial, by rw [hexB_len]; omega, by rw [hexB_len]; omega⟩, pairV_hexB]

theorem bytesV_some {w : Str} {b : List UInt8} {most : Nat} (h : bytesV w most = some b) : w = hexV b ∧ b.length ≤ most := by
  cases w with
  | nil => cases h
  | cons c r =>
    simp only [bytesV] at h
    split at h
    · rename_i hh
      obtain ⟨h1, h2, h3⟩ := hh
      have e := hexB_pairV r b h2 h
      subst h1
      refine ⟨by rw [hexV, ← e], ?_⟩
      have := hexB_len b
      rw [← e] at this; omega
    · cases h

theorem bytesR_hexV (b : List UInt8) : bytesR (hexV b) = b := by
  simp only [bytesR, hexV, List.drop_succ_cons, List.drop_zero]
  exact pairR_pairV _ _ (pairV_hexB b)

theorem hexC_ne {n : Nat} (h : n < 16) : hexC n ≠ 32 := by
  have : ∀ n : Fin 16, hexC n.val ≠ 32 := by decide
  exact this ⟨n, h⟩

theorem hexV_ok (b : List UInt8) : 32 ∉ hexV b := by
  have : ∀ b : List UInt8, 32 ∉ hexB b := by
    intro b
    induction b with
    | nil => simp [hexB]
    | cons c r ih =>
      have hc := c.toNat_lt
      have h1 := hexC_ne (show c.toNat / 16 < 16 by omega)
      have h2 := hexC_ne (show c.toNat % 16 < 16 by omega)
      simp only [hexB, List.mem_cons, not_or]
      exact ⟨h1.symm, h2.symm, ih⟩
  simp only [hexV, List.mem_cons, not_or]
  exact ⟨by decide, this b⟩

theorem itoa_ok (n : Int) : 32 ∉ itoa n := by
  intro h
  rcases itoa_all n 32 h with h | h <;> revert h <;> decide
end Scr

namespace Scr

/-! ### The words -/

def splitW : Str → List Str
  | [] => [[]]
  | c :: r => if c = 32 then [] :: splitW r else match splitW r with
    | w :: l => (c :: w) :: l
    | [] => [[c]]

def joinW : List Str → Str
  | [] => []
  | [w] => w
  | w :: l => w ++ 32 :: joinW l

theorem splitW_ne (s : Str) : splitW s ≠ [] := by
  cases s with
  | nil => simp [splitW]
  | cons c r =>
    simp only [splitW]
    split
    · simp
    · split <;> simp

theorem joinW_cons (w : Str) {l : List Str} (h : l ≠ []) : joinW (w :: l) = w ++ 32 :: joinW l := by
  cases l with
  | nil => exact absurd rfl h
  | cons a b => rfl

theorem join_split : ∀ s : Str, joinW (splitW s) = s
  | [] => rfl
  | c :: r => by
    have ih := join_split r
    simp only [splitW]
    split
    · rename_i h
      rw [joinW_cons _ (splitW_ne r), ih, h]; rfl
    · split
      · rename_i w l e
        rw [e] at ih
        cases l with
        | nil => simp only [joinW] at ih ⊢; rw [ih]
        | cons a b => simp only [joinW] at ih ⊢; rw [← ih]; rfl
      · rename_i e; exact absurd e (splitW_ne r)

theorem split_free : ∀ (w : Str), 32 ∉ w → splitW w = [w]
  | [], _ => rfl
  | c :: r, h => by
    simp only [List.mem_cons, not_or] at h
    simp only [splitW]
    rw [if_neg (fun e => h.1 e.symm), split_free r h.2]

theorem split_app : ∀ (w : Str) (s : Str), 32 ∉ w → splitW (w ++ 32 :: s) = w :: splitW s
  | [], s, _ => by simp [splitW]
  | c :: r, s, h => by
    simp only [List.mem_cons, not_or] at h
    simp only [List.cons_append, splitW]
    rw [if_neg (fun e => h.1 e.symm), split_app r s h.2]

theorem split_join : ∀ (l : List Str), l ≠ [] → (∀ w ∈ l, 32 ∉ w) → splitW (joinW l) = l
  | [], h, _ => absurd rfl h
  | [w], _, h => split_free w (h w (List.mem_cons_self ..))
  | w :: a :: b, _, h => by
    rw [joinW_cons w (by simp), split_app _ _ (h w (List.mem_cons_self ..)), split_join (a :: b) (by simp) (fun x hx => h x (List.mem_cons_of_mem _ hx))]

theorem split_mem : ∀ (s : Str), ∀ w ∈ splitW s, 32 ∉ w
  | [] => by intro w hw; simp only [splitW, List.mem_singleton] at hw; subst hw; simp
  | c :: r => by
    have ih := split_mem r
    intro w hw
    simp only [splitW] at hw
    split at hw
    · rcases List.mem_cons.1 hw with h | h
      · subst h; simp
      · exact ih w h
    · rename_i hc
      split at hw
      · rename_i v l e
        rw [e] at ih
        rcases List.mem_cons.1 hw with h | h
        · subst h
          simp only [List.mem_cons, not_or]
          exact ⟨fun e => hc e.symm, ih v (List.mem_cons_self ..)⟩
        · exact ih w (List.mem_cons_of_mem _ h)
      · rename_i e; exact absurd e (splitW_ne r)

/-! ### The names -/

def b8 (s : String) : Str := s.toUTF8.data.toList

def svcs : List Str := [b8 "ping", b8 "setmode", b8 "setparam", b8 "hkdefine", b8 "hkdelete", b8 "hkenable", b8 "monenable", b8 "eventenable", b8 "actadd", b8 "actdelete", b8 "actenable", b8 "schedinsert", b8 "scheddelete", b8 "schedshift", b8 "schedenable", b8 "seqload", b8 "seqstart", b8 "seqstop", b8 "memload", b8 "memdump", b8 "memcheck", b8 "filesend", b8 "filedelete", b8 "filecontrol", b8 "unitswitch", b8 "recreplay", b8 "recdelete", b8 "reboot"]
def flts : List Str := [b8 "upset", b8 "unit", b8 "hang", b8 "param", b8 "crash", b8 "radio", b8 "corrupt"]

/-- The place of a name, from 1 on; 0: it is none. -/
def ixOf : List Str → Str → Nat → Nat
  | [], _, _ => 0
  | a :: r, w, k => if a = w then k else ixOf r w (k + 1)
def svcV (w : Str) : Int := ixOf svcs w 1
def fltV (w : Str) : Int := ixOf flts w 1
def nth (l : List Str) (k : Int) : Str := if 1 ≤ k ∧ k ≤ l.length then l.getD (k.toNat - 1) [] else []
def svcN (k : Int) : Str := nth svcs k
def fltN (k : Int) : Str := nth flts k

theorem ixOf_lt : ∀ (l : List Str) (w : Str) (k : Nat), ixOf l w k = 0 ∨ (k ≤ ixOf l w k ∧ ixOf l w k < k + l.length ∧ l.getD (ixOf l w k - k) [] = w)
  | [], _, _ => Or.inl rfl
  | a :: r, w, k => by
    simp only [ixOf]
    split
    · rename_i h; refine Or.inr ⟨Nat.le_refl _, by simp, ?_⟩
      rw [Nat.sub_self]; exact h
    · rcases ixOf_lt r w (k + 1) with h | ⟨h1, h2, h3⟩
      · exact Or.inl h
      · refine Or.inr ⟨by omega, by simp only [List.length_cons]; omega, ?_⟩
        rw [show ixOf r w (k + 1) - k = (ixOf r w (k + 1) - (k + 1)) + 1 by omega]
        exact h3

theorem nth_ix (l : List Str) (w : Str) (h : (ixOf l w 1 : Int) ≠ 0) : nth l (ixOf l w 1) = w := by
  rcases ixOf_lt l w 1 with h0 | ⟨h1, h2, h3⟩
  · exact absurd (by rw [h0]; rfl) h
  · unfold nth
    rw [if_pos ⟨by omega, by omega⟩]
    exact h3

theorem svcN_V {w : Str} (h : svcV w ≠ 0) : svcN (svcV w) = w := nth_ix svcs w h
theorem fltN_V {w : Str} (h : fltV w ≠ 0) : fltN (fltV w) = w := nth_ix flts w h

theorem svcV_bound (w : Str) : 0 ≤ svcV w ∧ svcV w ≤ 28 := by
  have hl : svcs.length = 28 := rfl
  rcases ixOf_lt svcs w 1 with h | ⟨h1, h2, h3⟩
  · unfold svcV; rw [h]; omega
  · unfold svcV; omega
theorem fltV_bound (w : Str) : 0 ≤ fltV w ∧ fltV w ≤ 7 := by
  have hl : flts.length = 7 := rfl
  rcases ixOf_lt flts w 1 with h | ⟨h1, h2, h3⟩
  · unfold fltV; rw [h]; omega
  · unfold fltV; omega

theorem svcV_N {k : Int} (h1 : 1 ≤ k) (h2 : k ≤ 28) : svcV (svcN k) = k := by
  have : ∀ i : Fin 28, svcV (svcN ((i.val : Int) + 1)) = (i.val : Int) + 1 := by decide +kernel
  have e := this ⟨(k - 1).toNat, by omega⟩
  simp only at e
  rw [show (((k - 1).toNat : Nat) : Int) + 1 = k by omega] at e
  exact e
theorem fltV_N {k : Int} (h1 : 1 ≤ k) (h2 : k ≤ 7) : fltV (fltN k) = k := by
  have : ∀ i : Fin 7, fltV (fltN ((i.val : Int) + 1)) = (i.val : Int) + 1 := by decide +kernel
  have e := this ⟨(k - 1).toNat, by omega⟩
  simp only at e
  rw [show (((k - 1).toNat : Nat) : Int) + 1 = k by omega] at e
  exact e
theorem svcN_ok (k : Int) : 32 ∉ svcN k ∧ ((1 ≤ k ∧ k ≤ 28) ↔ svcN k ≠ []) := by
  by_cases h : 1 ≤ k ∧ k ≤ 28
  · have : ∀ i : Fin 28, 32 ∉ svcN ((i.val : Int) + 1) ∧ svcN ((i.val : Int) + 1) ≠ [] := by decide +kernel
    have e := this ⟨(k - 1).toNat, by omega⟩
    simp only at e
    rw [show (((k - 1).toNat : Nat) : Int) + 1 = k by omega] at e
    exact ⟨e.1, fun _ => e.2, fun _ => h⟩
  · have hl : (svcs.length : Int) = 28 := rfl
    have : svcN k = [] := by unfold svcN nth; rw [if_neg (by omega)]
    rw [this]
    exact ⟨by simp, fun hh => absurd hh h, fun hh => absurd rfl hh⟩
theorem fltN_ok (k : Int) : 32 ∉ fltN k ∧ ((1 ≤ k ∧ k ≤ 7) ↔ fltN k ≠ []) := by
  by_cases h : 1 ≤ k ∧ k ≤ 7
  · have : ∀ i : Fin 7, 32 ∉ fltN ((i.val : Int) + 1) ∧ fltN ((i.val : Int) + 1) ≠ [] := by decide +kernel
    have e := this ⟨(k - 1).toNat, by omega⟩
    simp only at e
    rw [show (((k - 1).toNat : Nat) : Int) + 1 = k by omega] at e
    exact ⟨e.1, fun _ => e.2, fun _ => h⟩
  · have hl : (flts.length : Int) = 7 := rfl
    have : fltN k = [] := by unfold fltN nth; rw [if_neg (by omega)]
    rw [this]
    exact ⟨by simp, fun hh => absurd hh h, fun hh => absurd rfl hh⟩

def nameV (s : Str) : Bool := s.all (fun c => decide (33 ≤ c.toNat ∧ c.toNat ≤ 126)) && decide (1 ≤ s.length ∧ s.length ≤ 64)

theorem nameV_ok {s : Str} (h : nameV s = true) : s ≠ [] ∧ 32 ∉ s := by
  simp only [nameV, Bool.and_eq_true, List.all_eq_true, decide_eq_true_eq] at h
  obtain ⟨h1, h2, h3⟩ := h
  refine ⟨by rintro rfl; simp at h2, fun hm => ?_⟩
  have := (h1 32 hm).1
  revert this; decide

/-! ### The acts -/

structure Act where
  kind : Int
  num : Int
  name : Str
  data : List UInt8
  src : Int
  cnum : Int
  svc : Int
  args : List Int
  cdata : List UInt8
  fk : Int
  fat : Int
  fbit : Int
  deriving DecidableEq

def act0 : Act := ⟨0, 0, [], [], 0, 0, 0, [], [], 0, 0, 0⟩

def numsV : List Str → Option (List Int)
  | [] => some []
  | w :: l => match numV w, numsV l with
    | some n, some t => some (n :: t)
    | _, _ => none

def oneV (k : Int) : List Str → Option Act
  | [w] => (numV w).map fun n => { act0 with kind := k, num := n }
  | _ => none

/-- The arguments and the data of an order. -/
def tailV (l : List Str) : Option (List Str × List UInt8) :=
  match l.getLast? with
  | none => some (l, [])
  | some z => if z.head? = some 120 then
      match bytesV z 512 with
      | some b => if b = [] then none else some (l.dropLast, b)
      | none => none
    else some (l, [])

def orderV : List Str → Option Act
  | [] => none
  | w :: l => match tailV l with
    | none => none
    | some (r, b) => match numsV r with
      | none => none
      | some t => if svcV w ≠ 0 ∧ t.length ≤ 8 then some { act0 with kind := 2, svc := svcV w, args := t, cdata := b } else none

def fileV : List Str → Option Act
  | [a, b, c] => if nameV b then match numV a, bytesV c 65536 with
      | some n, some d => some { act0 with kind := 3, num := n, name := b, data := d }
      | _, _ => none
    else none
  | _ => none

def faultV : List Str → Option Act
  | [a, b, c] => match numV b, numV c with
    | some x, some y => if fltV a ≠ 0 then some { act0 with kind := 4, fk := fltV a, fat := x, fbit := y } else none
    | _, _ => none
  | _ => none

def parseL : List Str → Option Act
  | [] => none
  | w :: l =>
    if w = b8 "tick" then oneV 1 l
    else if w = b8 "hold" then oneV 5 l
    else if w = b8 "command" then orderV l
    else if w = b8 "file" then fileV l
    else if w = b8 "fault" then faultV l
    else none

def parseV (s : Str) : Option Act := if (splitW s).all (fun w => decide (w ≠ [])) then parseL (splitW s) else none

/-- The words of the line of an act. -/
def lineL (a : Act) : Option (List Str) :=
  if a.kind = 1 then if small a.num ∧ a = { act0 with kind := 1, num := a.num } then some [b8 "tick", itoa a.num] else none
  else if a.kind = 2 then
    if (∀ n ∈ a.args, small n = true) ∧ a.args.length ≤ 8 ∧ a.cdata.length ≤ 512 ∧ svcN a.svc ≠ [] ∧ a = { act0 with kind := 2, svc := a.svc, args := a.args, cdata := a.cdata } then
      some (b8 "command" :: svcN a.svc :: (a.args.map itoa ++ if a.cdata = [] then [] else [hexV a.cdata]))
    else none
  else if a.kind = 3 then
    if small a.num ∧ nameV a.name ∧ a.data.length ≤ 65536 ∧ a = { act0 with kind := 3, num := a.num, name := a.name, data := a.data } then some [b8 "file", itoa a.num, a.name, hexV a.data] else none
  else if a.kind = 4 then
    if (1 ≤ a.fk ∧ a.fk ≤ 7) ∧ small a.fat ∧ small a.fbit ∧ a = { act0 with kind := 4, fk := a.fk, fat := a.fat, fbit := a.fbit } then some [b8 "fault", fltN a.fk, itoa a.fat, itoa a.fbit] else none
  else if a.kind = 5 then if small a.num ∧ a = { act0 with kind := 5, num := a.num } then some [b8 "hold", itoa a.num] else none
  else none

def lineV (a : Act) : Option Str := (lineL a).map joinW

theorem numsV_itoa : ∀ l : List Int, (∀ n ∈ l, small n = true) → numsV (l.map itoa) = some l
  | [], _ => rfl
  | n :: l, h => by
    simp only [List.map_cons, numsV, numV_itoa (h n (List.mem_cons_self ..)), numsV_itoa l (fun x hx => h x (List.mem_cons_of_mem _ hx))]

theorem numsV_some : ∀ (l : List Str) (t : List Int), numsV l = some t → l = t.map itoa ∧ ∀ n ∈ t, small n = true
  | [], t, h => by simp only [numsV] at h; injection h with h; subst h; simp
  | w :: l, t, h => by
    simp only [numsV] at h
    split at h
    · rename_i n r hn hr
      injection h with h; subst h
      obtain ⟨e1, s1⟩ := numV_some hn
      obtain ⟨e2, s2⟩ := numsV_some l r hr
      subst e1
      rw [List.map_cons, ← e2]
      refine ⟨rfl, ?_⟩
      intro m hm
      rcases List.mem_cons.1 hm with h | h
      · subst h; exact s1
      · exact s2 m h
    · cases h

theorem tailV_plain (l : List Int) : tailV (l.map itoa) = some (l.map itoa, []) := by
  unfold tailV
  split
  · rfl
  · rename_i z hz
    have hz' := List.mem_of_mem_getLast? hz
    obtain ⟨n, _, hn⟩ := List.mem_map.1 hz'
    subst hn
    rw [if_neg (itoa_head n)]

theorem tailV_hex (l : List Str) {b : List UInt8} (h0 : b ≠ []) (h : b.length ≤ 512) : tailV (l ++ [hexV b]) = some (l, b) := by
  unfold tailV
  rw [List.getLast?_append]
  simp only [List.getLast?_singleton, Option.some_or]
  rw [if_pos (by rfl), bytesV_hexV h]
  simp [h0]

theorem tailV_some {l r : List Str} {b : List UInt8} (h : tailV l = some (r, b)) : l = r ++ (if b = [] then [] else [hexV b]) ∧ b.length ≤ 512 := by
  unfold tailV at h
  split at h
  · injection h with h; injection h with h1 h2; subst h1 h2; simp
  · rename_i z hz
    split at h
    · split at h
      · rename_i b' hb
        split at h
        · cases h
        · rename_i hne
          injection h with h; injection h with h1 h2; subst h1 h2
          obtain ⟨e, hl⟩ := bytesV_some hb
          rw [if_neg hne]
          refine ⟨?_, hl⟩
          have hl : l ≠ [] := by rintro rfl; cases hz
          have hg : l.getLast hl = z := by rw [List.getLast?_eq_some_getLast hl] at hz; injection hz
          have := List.dropLast_concat_getLast hl
          rw [hg, e] at this
          exact this.symm
      · cases h
    · injection h with h; injection h with h1 h2; subst h1 h2; simp

/-- Every word of a line is one. -/
theorem line_clean {a : Act} {l : List Str} (h : lineL a = some l) : l ≠ [] ∧ ∀ w ∈ l, w ≠ [] ∧ 32 ∉ w := by
  unfold lineL at h
  split at h
  · split at h
    · injection h with h; subst h
      refine ⟨by simp, ?_⟩
      intro w hw
      simp only [List.mem_cons, List.not_mem_nil, or_false] at hw
      rcases hw with h | h <;> subst h
      · decide +kernel
      · exact ⟨itoa_ne _, itoa_ok _⟩
    · cases h
  split at h
  · split at h
    · rename_i hh
      injection h with h; subst h
      refine ⟨by simp, ?_⟩
      intro w hw
      simp only [List.mem_cons, List.mem_append, List.mem_map] at hw
      rcases hw with h | h | ⟨n, _, h⟩ | h
      · subst h; decide +kernel
      · subst h; exact ⟨hh.2.2.2.1, (svcN_ok _).1⟩
      · subst h; exact ⟨itoa_ne _, itoa_ok _⟩
      · split at h
        · cases h
        · rw [List.mem_singleton] at h; subst h; exact ⟨by simp [hexV], hexV_ok _⟩
    · cases h
  split at h
  · split at h
    · rename_i hh
      injection h with h; subst h
      refine ⟨by simp, ?_⟩
      intro w hw
      simp only [List.mem_cons, List.not_mem_nil, or_false] at hw
      rcases hw with h | h | h | h <;> subst h
      · decide +kernel
      · exact ⟨itoa_ne _, itoa_ok _⟩
      · exact nameV_ok hh.2.1
      · exact ⟨by simp [hexV], hexV_ok _⟩
    · cases h
  split at h
  · split at h
    · rename_i hh
      injection h with h; subst h
      refine ⟨by simp, ?_⟩
      intro w hw
      simp only [List.mem_cons, List.not_mem_nil, or_false] at hw
      rcases hw with h | h | h | h <;> subst h
      · decide +kernel
      · exact ⟨(fltN_ok _).2.1 hh.1, (fltN_ok _).1⟩
      · exact ⟨itoa_ne _, itoa_ok _⟩
      · exact ⟨itoa_ne _, itoa_ok _⟩
    · cases h
  split at h
  · split at h
    · injection h with h; subst h
      refine ⟨by simp, ?_⟩
      intro w hw
      simp only [List.mem_cons, List.not_mem_nil, or_false] at hw
      rcases hw with h | h <;> subst h
      · decide +kernel
      · exact ⟨itoa_ne _, itoa_ok _⟩
    · cases h
  · cases h

theorem ne_hold : b8 "hold" ≠ b8 "tick" := by decide +kernel
theorem ne_com1 : b8 "command" ≠ b8 "tick" := by decide +kernel
theorem ne_com2 : b8 "command" ≠ b8 "hold" := by decide +kernel
theorem ne_fil1 : b8 "file" ≠ b8 "tick" := by decide +kernel
theorem ne_fil2 : b8 "file" ≠ b8 "hold" := by decide +kernel
theorem ne_fil3 : b8 "file" ≠ b8 "command" := by decide +kernel
theorem ne_flt1 : b8 "fault" ≠ b8 "tick" := by decide +kernel
theorem ne_flt2 : b8 "fault" ≠ b8 "hold" := by decide +kernel
theorem ne_flt3 : b8 "fault" ≠ b8 "command" := by decide +kernel
theorem ne_flt4 : b8 "fault" ≠ b8 "file" := by decide +kernel

/-- L1 at the words. -/
theorem parse_line {a : Act} {l : List Str} (h : lineL a = some l) : parseL l = some a := by
  unfold lineL at h
  split at h
  · split at h
    · rename_i hh
      injection h with h; subst h
      simp only [parseL, if_true, oneV, numV_itoa hh.1, Option.map_some]
      exact congrArg some hh.2.symm
    · cases h
  split at h
  · split at h
    · rename_i hh
      obtain ⟨h1, h2, h3, h4, h5⟩ := hh
      injection h with h; subst h
      simp only [parseL]
      rw [if_neg ne_com1, if_neg ne_com2, if_pos trivial]
      have hb := (svcN_ok a.svc).2.2 h4
      simp only [orderV]
      have ht : tailV (a.args.map itoa ++ if a.cdata = [] then [] else [hexV a.cdata]) = some (a.args.map itoa, a.cdata) := by
        split
        · rename_i h0; rw [List.append_nil, tailV_plain, h0]
        · rename_i h0; exact tailV_hex _ h0 h3
      rw [ht]
      simp only [numsV_itoa _ h1, svcV_N hb.1 hb.2]
      rw [if_pos ⟨by omega, h2⟩]
      exact congrArg some h5.symm
    · cases h
  split at h
  · split at h
    · rename_i hh
      obtain ⟨h1, h2, h3, h4⟩ := hh
      injection h with h; subst h
      simp only [parseL]
      rw [if_neg ne_fil1, if_neg ne_fil2, if_neg ne_fil3, if_pos trivial]
      simp only [fileV, h2, if_true, numV_itoa h1, bytesV_hexV h3]
      exact congrArg some h4.symm
    · cases h
  split at h
  · split at h
    · rename_i hh
      obtain ⟨h1, h2, h3, h4⟩ := hh
      injection h with h; subst h
      simp only [parseL]
      rw [if_neg ne_flt1, if_neg ne_flt2, if_neg ne_flt3, if_neg ne_flt4, if_pos trivial]
      simp only [faultV, numV_itoa h2, numV_itoa h3, fltV_N h1.1 h1.2]
      rw [if_pos (by omega)]
      exact congrArg some h4.symm
    · cases h
  split at h
  · split at h
    · rename_i hh
      injection h with h; subst h
      simp only [parseL]
      rw [if_neg ne_hold, if_pos trivial]
      simp only [oneV, numV_itoa hh.1, Option.map_some]
      exact congrArg some hh.2.symm
    · cases h
  · cases h

theorem oneV_some {k : Int} {l : List Str} {a : Act} (h : oneV k l = some a) : ∃ n, small n = true ∧ l = [itoa n] ∧ a = { act0 with kind := k, num := n } := by
  unfold oneV at h
  split at h
  · rename_i w
    cases hn : numV w with
    | none => rw [hn] at h; cases h
    | some n =>
      rw [hn] at h; injection h with h
      obtain ⟨e, hs⟩ := numV_some hn
      subst e
      exact ⟨n, hs, rfl, h.symm⟩
  · cases h

/-- L2 at the words. -/
theorem line_parse {a : Act} {l : List Str} (h : parseL l = some a) : lineL a = some l := by
  cases l with
  | nil => cases h
  | cons w l =>
    simp only [parseL] at h
    split at h
    · rename_i hw
      obtain ⟨n, hs, hl, ha⟩ := oneV_some h
      subst hw hl ha
      simp [lineL, act0, hs]
    split at h
    · rename_i hw
      obtain ⟨n, hs, hl, ha⟩ := oneV_some h
      subst hw hl ha
      simp [lineL, act0, hs]
    split at h
    · rename_i hw
      subst hw
      unfold orderV at h
      split at h
      · cases h
      · rename_i v r
        split at h
        · cases h
        · rename_i q b ht
          split at h
          · cases h
          · rename_i t hn
            split at h
            · rename_i hc
              injection h with h; subst h
              obtain ⟨e1, l1⟩ := tailV_some ht
              obtain ⟨e2, s2⟩ := numsV_some _ _ hn
              have e3 := svcN_V hc.1
              have hb := svcV_bound v
              have h4 : svcN (svcV v) ≠ [] := (svcN_ok _).2.1 ⟨by omega, hb.2⟩
              unfold lineL
              rw [if_neg (by simp), if_pos rfl]
              dsimp only
              rw [if_pos ⟨s2, hc.2, l1, h4, rfl⟩, e1, e2, e3]
            · cases h
    split at h
    · rename_i hw
      subst hw
      unfold fileV at h
      split at h
      · rename_i x y z
        split at h
        · rename_i hn
          split at h
          · rename_i n d h1 h2
            injection h with h; subst h
            obtain ⟨e1, s1⟩ := numV_some h1
            obtain ⟨e2, s2⟩ := bytesV_some h2
            unfold lineL
            rw [if_neg (by simp), if_neg (by simp), if_pos rfl]
            dsimp only
            rw [if_pos ⟨s1, hn, s2, rfl⟩, e1, e2]
          · cases h
        · cases h
      · cases h
    split at h
    · rename_i hw
      subst hw
      unfold faultV at h
      split at h
      · rename_i x y z
        split at h
        · rename_i n d h1 h2
          split at h
          · rename_i hc
            injection h with h; subst h
            obtain ⟨e1, s1⟩ := numV_some h1
            obtain ⟨e2, s2⟩ := numV_some h2
            have hb := fltV_bound x
            have e3 := fltN_V hc
            unfold lineL
            rw [if_neg (by simp), if_neg (by simp), if_neg (by simp), if_pos rfl]
            dsimp only
            rw [if_pos ⟨⟨by omega, hb.2⟩, s1, s2, rfl⟩, e1, e2, e3]
          · cases h
        · cases h
      · cases h
    · cases h

theorem parse_of_line {a : Act} {s : Str} (h : lineV a = some s) : parseV s = some a := by
  unfold lineV at h
  cases hl : lineL a with
  | none => rw [hl] at h; cases h
  | some l =>
    rw [hl] at h; injection h with h; subst h
    obtain ⟨h0, hc⟩ := line_clean hl
    unfold parseV
    rw [split_join l h0 (fun w hw => (hc w hw).2), if_pos, parse_line hl]
    simp only [List.all_eq_true, decide_eq_true_eq]
    exact fun w hw => (hc w hw).1

theorem line_of_parse {a : Act} {s : Str} (h : parseV s = some a) : lineV a = some s := by
  unfold parseV at h
  split at h
  · unfold lineV; rw [line_parse h]; simp only [Option.map_some, join_split]
  · cases h
end Scr

namespace Scr

/-! ### The specification's reading -/

/-- What R.act makes of the words of a command behind the name: at most ten of them. -/
def argsR : List Str → Act → Act
  | [], a => a
  | w :: l, a => argsR l (if w = [] then a else if w.head? = some 120 then { a with cdata := bytesR w } else { a with args := a.args ++ [rnum w] })

def at' (l : List Str) (k : Nat) : Str := l.getD k []

def actR (l : List Str) : Act :=
  let w := at' l 0
  if w = b8 "tick" then { act0 with kind := 1, num := rnum (at' l 1) }
  else if w = b8 "command" then argsR ((l.drop 2).take 10) { act0 with kind := 2, svc := svcV (at' l 1) }
  else if w = b8 "file" then { act0 with kind := 3, num := rnum (at' l 1), name := at' l 2, data := bytesR (at' l 3) }
  else if w = b8 "fault" then { act0 with kind := 4, fk := fltV (at' l 1), fat := rnum (at' l 2), fbit := rnum (at' l 3) }
  else { act0 with kind := 5, num := rnum (at' l 1) }

theorem argsR_nums : ∀ (t : List Int) (q : List Str) (a : Act), (∀ n ∈ t, small n = true) → argsR (t.map itoa ++ q) a = argsR q { a with args := a.args ++ t }
  | [], q, a, _ => by simp
  | n :: t, q, a, h => by
    simp only [List.map_cons, List.cons_append, argsR]
    rw [if_neg (itoa_ne n), if_neg (itoa_head n), rnum_itoa (h n (List.mem_cons_self ..)), argsR_nums t q _ (fun x hx => h x (List.mem_cons_of_mem _ hx))]
    simp

/-- L3: the specification's reader finds the act. -/
theorem actR_of {l : List Str} {a : Act} (h : lineL a = some l) : actR l = a := by
  unfold lineL at h
  split at h
  · split at h
    · rename_i hh
      injection h with h; subst h
      simp [actR, at', ne_hold, ne_com1, ne_com2.symm, ne_fil1, ne_fil2.symm, ne_fil3, ne_flt1, ne_flt2.symm, ne_flt3, ne_flt4]
      rw [rnum_itoa hh.1]
      exact hh.2.symm
    · cases h
  split at h
  · split at h
    · rename_i hh
      obtain ⟨h1, h2, h3, h4, h5⟩ := hh
      injection h with h; subst h
      simp only [actR, at', List.getD_cons_zero, List.getD_cons_succ, List.drop_succ_cons, List.drop_zero, if_true, if_false, ne_com1]
      have hb := (svcN_ok a.svc).2.2 h4
      rw [svcV_N hb.1 hb.2, List.take_of_length_le, argsR_nums _ _ _ h1]
      · by_cases h0 : a.cdata = []
        · rw [if_pos h0]
          simp only [argsR]
          refine Eq.trans ?_ h5.symm
          rw [h0]; rfl
        · rw [if_neg h0]
          simp only [argsR]
          rw [if_neg (by simp [hexV]), if_pos (show (hexV a.cdata).head? = some 120 from rfl), bytesR_hexV]
          exact h5.symm
      · split <;> simp <;> omega
    · cases h
  split at h
  · split at h
    · rename_i hh
      injection h with h; subst h
      simp [actR, at', ne_hold, ne_com1, ne_com2.symm, ne_fil1, ne_fil2.symm, ne_fil3, ne_flt1, ne_flt2.symm, ne_flt3, ne_flt4]
      rw [rnum_itoa hh.1, bytesR_hexV]
      exact hh.2.2.2.symm
    · cases h
  split at h
  · split at h
    · rename_i hh
      injection h with h; subst h
      simp [actR, at', ne_hold, ne_com1, ne_com2.symm, ne_fil1, ne_fil2.symm, ne_fil3, ne_flt1, ne_flt2.symm, ne_flt3, ne_flt4]
      rw [fltV_N hh.1.1 hh.1.2, rnum_itoa hh.2.1, rnum_itoa hh.2.2.1]
      exact hh.2.2.2.symm
    · cases h
  split at h
  · split at h
    · rename_i hh
      injection h with h; subst h
      simp [actR, at', ne_hold, ne_com1, ne_com2.symm, ne_fil1, ne_fil2.symm, ne_fil3, ne_flt1, ne_flt2.symm, ne_flt3, ne_flt4]
      rw [rnum_itoa hh.1]
      exact hh.2.symm
    · cases h
  · cases h

/-- R.Parse. -/
def parseR (s : Str) : Option Act := if lineV (actR (splitW s)) = some s then some (actR (splitW s)) else none

theorem parseR_eq (s : Str) : parseR s = parseV s := by
  unfold parseR
  split
  · rename_i h; exact (parse_of_line h).symm
  · rename_i h
    cases hp : parseV s with
    | none => rfl
    | some a =>
      exfalso
      have hl := line_of_parse hp
      apply h
      unfold parseV at hp
      split at hp
      · rw [actR_of (line_parse hp), hl]
      · cases hp

/-- script.text of an act, script.Line. -/
def textL (a : Act) : List Str :=
  if a.kind = 1 then [b8 "tick", itoa a.num]
  else if a.kind = 5 then [b8 "hold", itoa a.num]
  else if a.kind = 2 then b8 "command" :: svcN a.svc :: (a.args.map itoa ++ if a.cdata = [] then [] else [hexV a.cdata])
  else if a.kind = 3 then [b8 "file", itoa a.num, a.name, hexV a.data]
  else if a.kind = 4 then if 1 ≤ a.fk ∧ a.fk ≤ 7 then [b8 "fault", fltN a.fk, itoa a.fat, itoa a.fbit] else []
  else []
def textV (a : Act) : Str := joinW (textL a)

theorem line_text {a : Act} {l : List Str} (h : lineL a = some l) : textL a = l := by
  unfold lineL at h
  unfold textL
  split at h
  · rename_i k
    rw [if_pos k]
    split at h
    · injection h
    · cases h
  split at h
  · rename_i k0 k
    rw [if_neg k0, if_neg (by omega), if_pos k]
    split at h
    · injection h
    · cases h
  split at h
  · rename_i k0 k1 k
    rw [if_neg k0, if_neg (by omega), if_neg k1, if_pos k]
    split at h
    · injection h
    · cases h
  split at h
  · rename_i k0 k1 k2 k
    rw [if_neg k0, if_neg (by omega), if_neg k1, if_neg k2, if_pos k]
    split at h
    · rename_i hh
      rw [if_pos hh.1]
      injection h
    · cases h
  split at h
  · rename_i k0 k1 k2 k3 k
    rw [if_neg k0, if_pos k]
    split at h
    · injection h
    · cases h
  · cases h

/-- script.Line: what it writes, if reading it gives the act back. -/
def lineS (a : Act) : Option Str := if parseV (textV a) = some a then some (textV a) else none

theorem lineS_eq (a : Act) : lineS a = lineV a := by
  unfold lineS
  split
  · rename_i h; exact (line_of_parse h).symm
  · rename_i h
    cases hl : lineV a with
    | none => rfl
    | some s =>
      exfalso
      have hp := parse_of_line hl
      unfold lineV at hl
      cases hw : lineL a with
      | none => rw [hw] at hl; cases hl
      | some l =>
        rw [hw] at hl; injection hl with hl
        apply h
        unfold textV
        rw [line_text hw, hl, hp]

/-! ### The scenarios -/

/-- A line and what is behind its end; none: it has no end. -/
def cutN : Str → Option (Str × Str)
  | [] => none
  | c :: r => if c = 10 then some ([], r) else (cutN r).map fun p => (c :: p.1, p.2)

theorem cutN_some : ∀ {s a b : Str}, cutN s = some (a, b) → s = a ++ 10 :: b ∧ 10 ∉ a
  | [], _, _, h => by cases h
  | c :: r, a, b, h => by
    simp only [cutN] at h
    split at h
    · rename_i hc; injection h with h; injection h with h1 h2; subst h1 h2 hc; simp
    · rename_i hc
      cases hr : cutN r with
      | none => rw [hr] at h; cases h
      | some p =>
        rw [hr] at h; injection h with h; injection h with h1 h2
        obtain ⟨e1, e2⟩ := cutN_some (s := r) (a := p.1) (b := p.2) hr
        subst h1 h2
        refine ⟨by rw [e1]; rfl, ?_⟩
        simp only [List.mem_cons, not_or]
        exact ⟨fun e => hc e.symm, e2⟩

theorem cutN_none : ∀ {s : Str}, cutN s = none → 10 ∉ s
  | [], _ => by simp
  | c :: r, h => by
    simp only [cutN] at h
    split at h
    · cases h
    · rename_i hc
      cases hr : cutN r with
      | none => simp only [List.mem_cons, not_or]; exact ⟨fun e => hc e.symm, cutN_none hr⟩
      | some p => rw [hr] at h; cases h

theorem cutN_app : ∀ (a b : Str), 10 ∉ a → cutN (a ++ 10 :: b) = some (a, b)
  | [], b, _ => by simp [cutN]
  | c :: r, b, h => by
    simp only [List.mem_cons, not_or] at h
    simp only [List.cons_append, cutN]
    rw [if_neg (fun e => h.1 e.symm), cutN_app r b h.2]; rfl

theorem cutN_len {s a b : Str} (h : cutN s = some (a, b)) : b.length < s.length := by
  rw [(cutN_some h).1]; simp; omega

/-- Lines: the acts, or the number of the first bad line. -/
def linesF : Nat → Str → Nat → List Act → List Act × Nat
  | 0, _, _, out => (out, 0)
  | f + 1, s, n, out => if s = [] then (out, 0) else
    match cutN s with
    | none => ([], n)
    | some (a, b) => match parseV a with
      | none => ([], n)
      | some x => linesF f b (n + 1) (out ++ [x])
def linesV (s : Str) : List Act × Nat := linesF (s.length + 1) s 1 []

theorem linesF_more : ∀ (f g : Nat) (s : Str) (n : Nat) (out : List Act), s.length < f → s.length < g → linesF f s n out = linesF g s n out
  | 0, _, s, _, _, h, _ => by omega
  | _, 0, s, _, _, _, h => by omega
  | f + 1, g + 1, s, n, out, h1, h2 => by
    simp only [linesF]
    split
    · rfl
    · split
      · rfl
      · rename_i a b hc
        have := cutN_len hc
        split
        · rfl
        · exact linesF_more f g b _ _ (by omega) (by omega)

/-- Text. -/
def textsV : List Act → Option Str
  | [] => some []
  | a :: l => match lineV a, textsV l with
    | some s, some t => some (s ++ 10 :: t)
    | _, _ => none

/-- No line holds a line's end. -/
theorem nameV_nl {s : Str} (h : nameV s = true) : 10 ∉ s := by
  simp only [nameV, Bool.and_eq_true, List.all_eq_true, decide_eq_true_eq] at h
  intro hm
  have := (h.1 10 hm).1
  revert this; decide
theorem hexV_nl (b : List UInt8) : 10 ∉ hexV b := by
  have k : ∀ n : Nat, n < 16 → hexC n ≠ 10 := by
    intro n h
    have : ∀ n : Fin 16, hexC n.val ≠ 10 := by decide
    exact this ⟨n, h⟩
  have : ∀ b : List UInt8, 10 ∉ hexB b := by
    intro b
    induction b with
    | nil => simp [hexB]
    | cons c r ih =>
      have hc := c.toNat_lt
      have h1 := k _ (show c.toNat / 16 < 16 by omega)
      have h2 := k _ (show c.toNat % 16 < 16 by omega)
      simp only [hexB, List.mem_cons, not_or]
      exact ⟨h1.symm, h2.symm, ih⟩
  simp only [hexV, List.mem_cons, not_or]
  exact ⟨by decide, this b⟩
theorem itoa_nl (n : Int) : 10 ∉ itoa n := by
  intro h
  rcases itoa_all n 10 h with h | h <;> revert h <;> decide
theorem svcN_nl (k : Int) : 10 ∉ svcN k := by
  by_cases h : 1 ≤ k ∧ k ≤ 28
  · have : ∀ i : Fin 28, 10 ∉ svcN ((i.val : Int) + 1) := by decide +kernel
    have e := this ⟨(k - 1).toNat, by omega⟩
    simp only at e
    rw [show (((k - 1).toNat : Nat) : Int) + 1 = k by omega] at e
    exact e
  · have hl : (svcs.length : Int) = 28 := rfl
    have : svcN k = [] := by unfold svcN nth; rw [if_neg (by omega)]
    rw [this]; simp
theorem fltN_nl (k : Int) : 10 ∉ fltN k := by
  by_cases h : 1 ≤ k ∧ k ≤ 7
  · have : ∀ i : Fin 7, 10 ∉ fltN ((i.val : Int) + 1) := by decide +kernel
    have e := this ⟨(k - 1).toNat, by omega⟩
    simp only at e
    rw [show (((k - 1).toNat : Nat) : Int) + 1 = k by omega] at e
    exact e
  · have hl : (flts.length : Int) = 7 := rfl
    have : fltN k = [] := by unfold fltN nth; rw [if_neg (by omega)]
    rw [this]; simp

theorem join_nl : ∀ l : List Str, (∀ w ∈ l, 10 ∉ w) → 10 ∉ joinW l
  | [], _ => by simp [joinW]
  | [w], h => h w (List.mem_cons_self ..)
  | w :: a :: b, h => by
    rw [joinW_cons w (by simp)]
    simp only [List.mem_append, List.mem_cons, not_or]
    exact ⟨h w (List.mem_cons_self ..), by decide, join_nl (a :: b) (fun x hx => h x (List.mem_cons_of_mem _ hx))⟩

theorem line_nl {a : Act} {s : Str} (h : lineV a = some s) : 10 ∉ s := by
  unfold lineV at h
  cases hl : lineL a with
  | none => rw [hl] at h; cases h
  | some l =>
    rw [hl] at h; injection h with h; subst h
    apply join_nl
    unfold lineL at hl
    split at hl
    · split at hl
      · injection hl with hl; subst hl
        intro w hw
        simp only [List.mem_cons, List.not_mem_nil, or_false] at hw
        rcases hw with h | h <;> subst h
        · decide +kernel
        · exact itoa_nl _
      · cases hl
    split at hl
    · split at hl
      · rename_i hh
        injection hl with hl; subst hl
        intro w hw
        simp only [List.mem_cons, List.mem_append, List.mem_map] at hw
        rcases hw with h | h | ⟨n, _, h⟩ | h
        · subst h; decide +kernel
        · subst h; exact svcN_nl _
        · subst h; exact itoa_nl _
        · split at h
          · cases h
          · rw [List.mem_singleton] at h; subst h; exact hexV_nl _
      · cases hl
    split at hl
    · split at hl
      · rename_i hh
        injection hl with hl; subst hl
        intro w hw
        simp only [List.mem_cons, List.not_mem_nil, or_false] at hw
        rcases hw with h | h | h | h <;> subst h
        · decide +kernel
        · exact itoa_nl _
        · exact nameV_nl hh.2.1
        · exact hexV_nl _
      · cases hl
    split at hl
    · split at hl
      · rename_i hh
        injection hl with hl; subst hl
        intro w hw
        simp only [List.mem_cons, List.not_mem_nil, or_false] at hw
        rcases hw with h | h | h | h <;> subst h
        · decide +kernel
        · exact fltN_nl _
        · exact itoa_nl _
        · exact itoa_nl _
      · cases hl
    split at hl
    · split at hl
      · injection hl with hl; subst hl
        intro w hw
        simp only [List.mem_cons, List.not_mem_nil, or_false] at hw
        rcases hw with h | h <;> subst h
        · decide +kernel
        · exact itoa_nl _
      · cases hl
    · cases hl

/-- Lines of a Text are its acts. -/
theorem lines_texts : ∀ (l : List Act) (t : Str) (f n : Nat) (out : List Act), textsV l = some t → t.length < f → linesF f t n out = (out ++ l, 0)
  | [], t, f, n, out, h, hf => by
    simp only [textsV] at h; injection h with h; subst h
    cases f with
    | zero => simp at hf
    | succ f => simp [linesF]
  | a :: l, t, f, n, out, h, hf => by
    simp only [textsV] at h
    split at h
    · rename_i s r hs hr
      injection h with h; subst h
      cases f with
      | zero => simp at hf
      | succ f =>
        simp only [linesF]
        rw [if_neg (by simp), cutN_app s r (line_nl hs)]
        dsimp only
        rw [parse_of_line hs]
        dsimp only
        rw [lines_texts l r f (n + 1) (out ++ [a]) hr (by simp at hf; omega)]
        simp
    · cases h
end Scr
