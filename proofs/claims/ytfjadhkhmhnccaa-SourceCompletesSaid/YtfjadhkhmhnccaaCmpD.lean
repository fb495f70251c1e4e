/- The receiver of SourceCompletes as a value: what it does with a unit, what it answers. No program in sight. -/
import Derived.Test.YtfjadhkhmhnccaaRngMath
set_option linter.unusedVariables false
namespace Fil
/-- The receiver of the law. -/
structure Rcv where
  named : Bool
  ended : Bool
  closed : Bool
  hv : List Bool
  dt : List Nat
/-- A row after n stores from place f on. -/
def ov {α : Type} (l : List α) (f : Nat) (g : Nat → α) : Nat → List α
  | 0 => l
  | i + 1 => (ov l f g i).set (f + i) (g i)
theorem ov_len {α : Type} (l : List α) (f : Nat) (g : Nat → α) : ∀ n, (ov l f g n).length = l.length
  | 0 => rfl
  | n + 1 => by rw [ov, List.length_set, ov_len l f g n]
theorem ov_get {α : Type} (l : List α) (f : Nat) (g : Nat → α) : ∀ n j, (ov l f g n)[j]? = if f ≤ j ∧ j < f + n ∧ j < l.length then some (g (j - f)) else l[j]?
  | 0, j => by rw [if_neg (by omega)]; rfl
  | n + 1, j => by
    rw [ov, List.getElem?_set, ov_len, ov_get l f g n j]
    by_cases h1 : f + n = j
    · subst h1
      rw [if_pos rfl]
      by_cases h2 : f + n < l.length
      · rw [if_pos h2, if_pos (by omega)]; congr 2; omega
      · rw [if_neg h2, if_neg (by omega), List.getElem?_eq_none (by omega)]
    · rw [if_neg h1]
      by_cases h2 : f ≤ j ∧ j < f + n ∧ j < l.length
      · rw [if_pos h2, if_pos (by omega)]
      · rw [if_neg h2, if_neg (by omega)]
def pre (named : Bool) : List Rng.R := if named = true then [] else [(0, 0)]
/-- The receiver's answer, place by place: the ranges and where the open one begins. -/
def ansS (hv : List Bool) (named : Bool) : Nat → List Rng.R × Int
  | 0 => (pre named, -1)
  | i + 1 =>
    if (decide (i = hv.length) || hv.getD i false) = true then
      if 0 ≤ (ansS hv named i).2 then (if (ansS hv named i).1.length < 16 then (ansS hv named i).1 ++ [((ansS hv named i).2, (i : Int))] else (ansS hv named i).1, -1) else ansS hv named i
    else if (ansS hv named i).2 < 0 then ((ansS hv named i).1, (i : Int)) else ansS hv named i
def ansV (r : Rcv) : List Rng.R := (ansS r.hv r.named (r.hv.length + 1)).1
theorem ansS_bd (hv : List Bool) (named : Bool) : ∀ k, (ansS hv named k).1.length ≤ 16 ∧ (-1 ≤ (ansS hv named k).2 ∧ (ansS hv named k).2 < k)
  | 0 => ⟨by unfold ansS pre; split <;> simp, by unfold ansS; exact ⟨Int.le_refl _, by show (-1 : Int) < (0 : Nat); omega⟩⟩
  | k + 1 => by
    obtain ⟨h1, h2, h3⟩ := ansS_bd hv named k
    unfold ansS
    split
    · split
      · refine ⟨?_, by show (-1 : Int) ≤ -1; omega, by show (-1 : Int) < _; omega⟩
        split
        · rw [List.length_append]; simp only [List.length_cons, List.length_nil]; omega
        · exact h1
      · exact ⟨h1, h2, by omega⟩
    · split
      · exact ⟨h1, by show (-1 : Int) ≤ (k : Int); omega, by show (k : Int) < _; omega⟩
      · exact ⟨h1, h2, by omega⟩
theorem ansS_yes {hv : List Bool} {named : Bool} {k : Nat} {L : List Rng.R} {F : Int} (he : ansS hv named k = (L, F)) (ht : (decide (k = hv.length) || hv.getD k false) = true) : ansS hv named (k + 1) = if 0 ≤ F then (if L.length < 16 then L ++ [(F, (k : Int))] else L, -1) else (L, F) := by
  unfold ansS
  rw [if_pos ht, he]
theorem ansS_no {hv : List Bool} {named : Bool} {k : Nat} {L : List Rng.R} {F : Int} (he : ansS hv named k = (L, F)) (ht : ¬ (decide (k = hv.length) || hv.getD k false) = true) : ansS hv named (k + 1) = if F < 0 then (L, (k : Int)) else (L, F) := by
  unfold ansS
  rw [if_neg ht, he]
end Fil
