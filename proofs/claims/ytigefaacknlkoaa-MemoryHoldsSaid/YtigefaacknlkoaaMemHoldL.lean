/- Lists of marks that a loop strikes out one by one, and counts. No program in sight. -/
import Derived.WalkKit
set_option linter.unusedVariables false
namespace Ecc
def clr (j : Nat) (up : List Bool) : List Bool := List.replicate j false ++ up.drop j
def cnt1 (j : Nat) (up : List Bool) : Nat := (up.take j).count true
theorem clr_len {j : Nat} {up : List Bool} (h : j ≤ up.length) : (clr j up).length = up.length := by simp [clr]; omega
theorem clr_get {j : Nat} {up : List Bool} : (clr j up).getD j false = up.getD j false := by simp [clr, List.getD, List.getElem?_append]
theorem clr_set {j : Nat} {up : List Bool} (h : j < up.length) : (clr j up).set j false = clr (j + 1) up := by
  refine List.ext_getElem (by simp [clr]; omega) fun i h1 h2 => ?_
  simp only [clr, List.getElem_set, List.getElem_append, List.getElem_replicate, List.getElem_drop, List.length_replicate]
  by_cases e : j = i
  · subst e; simp
  · by_cases l : i < j
    · simp [e, l, show i < j + 1 by omega]
    · simp only [e, l, show ¬ i < j + 1 by omega, if_false, dif_neg, not_false_eq_true]
      congr 1; omega
theorem clr_zero (up : List Bool) : clr 0 up = up := by simp [clr]
theorem clr_all (n : Nat) (up : List Bool) (h : up.length = n) : clr n up = List.replicate n false := by simp [clr, ← h]
theorem cnu_zero (up : List Bool) : cnt1 0 up = 0 := by simp [cnt1]
theorem cnu_succ {j : Nat} {up : List Bool} (h : j < up.length) : cnt1 (j + 1) up = cnt1 j up + if up.getD j false then 1 else 0 := by
  unfold cnt1
  rw [List.take_succ_eq_append_getElem h, List.count_append]
  have e : up.getD j false = up[j] := by simp [List.getD, h]
  rw [e]
  cases up[j] <;> simp
theorem cnu_all (n : Nat) (up : List Bool) (h : up.length = n) : cnt1 n up = up.count true := by simp [cnt1, ← h]
theorem cnu_le (j : Nat) (up : List Bool) : cnt1 j up ≤ j := by
  unfold cnt1; exact Nat.le_trans (List.count_le_length) (by simp; omega)
end Ecc
