/- Reading a fault. -/
import Derived.Test.YtimnhheagdhpgaaDoorScrY
set_option linter.unusedVariables false
set_option linter.unusedSimpArgs false
namespace Go.Proofs.YtimnhheagdhpgaaDoor
open Go.RowKit Go.Proofs.Num
open Scr (Str bs numV numsV small svcV fltV nameV bytesV oneV fileV faultV orderV tailV flts)
section
variable {w : World}
set_option maxRecDepth 100000 in
set_option maxHeartbeats 8000000 in
theorem cFaults : Calls Tryd.prog 48 #[] w fun e w' => e = .returned (.slice (some ⟨w.heap.size, 0, none⟩) 8 8) ∧ New w w' 9 (.slice (some ⟨w.heap.size, 0, none⟩) 8 8) (strsV ([] :: flts)) := by
  go_enter Tryd.func48, Tryd.ntmps48
  go_wp2_with fail
  go_ret
  refine ⟨rfl, ⟨⟨rfl, Or.inr ⟨_, _, _, rfl, Nat.le_refl _, heap_new w _ rfl, Nat.le_refl _, by decide, rfl, ?_⟩⟩, (Below.refl _ _).alloc (Nat.le_refl _) _⟩⟩
  kernel_rfl
def fltAt (k : Nat) : Str := (([] : Str) :: flts).getD k []
/-- The kind that the first k names give. -/
def kindAt (a : Str) (k : Nat) : Int := if fltV a < (k : Int) then fltV a else 0
theorem kind_step (a : Str) (k : Nat) (hk : k < 8) : kindAt a (k + 1) = if 0 < k ∧ fltAt k = a then (k : Int) else kindAt a k := by
  have hb := Scr.fltV_bound a
  have ix : ∀ j : Nat, 1 ≤ j → j < 8 → fltV (fltAt j) = (j : Int) := by
    have : ∀ i : Fin 7, fltV (fltAt (i.val + 1)) = ((i.val + 1 : Nat) : Int) := by decide +kernel
    intro j h1 h2
    have e := this ⟨j - 1, by omega⟩
    simp only at e
    rw [show j - 1 + 1 = j by omega] at e
    exact e
  have nx : ∀ j : Nat, 1 ≤ j → j < 8 → fltV a = (j : Int) → fltAt j = a := by
    intro j h1 h2 h3
    have e := Scr.fltN_V (w := a) (by omega)
    rw [h3] at e
    rw [← e]
    have : ∀ i : Fin 7, fltAt (i.val + 1) = Scr.fltN ((i.val + 1 : Nat) : Int) := by decide +kernel
    have e := this ⟨j - 1, by omega⟩
    simp only at e
    rw [show j - 1 + 1 = j by omega] at e
    exact e
  unfold kindAt
  by_cases h : 0 < k ∧ fltAt k = a
  · rw [if_pos h]
    have := ix k h.1 hk
    rw [h.2] at this
    rw [this, if_pos (by omega)]
  · rw [if_neg h]
    by_cases h0 : fltV a < (k : Int)
    · rw [if_pos h0, if_pos (by omega)]
    · rw [if_neg h0]
      by_cases h1 : fltV a < ((k + 1 : Nat) : Int)
      · have e : fltV a = (k : Int) := by omega
        rw [if_pos h1]
        by_cases hk0 : k = 0
        · omega
        · exact absurd ⟨by omega, nx k (by omega) hk e⟩ h
      · rw [if_neg h1]
def numsU (w w' : World) (o : Option (List Int)) (e : Ending) : Prop := ∃ va vn vc, e = .returned (.tuple #[.slice va vn vc, .bool o.isSome]) ∧ New w w' 3 (.slice va vn vc) (intsV (o.getD []))
theorem numsE.uni {w w' : World} {o : Option (List Int)} {e : Ending} (h : numsE w w' o e) : numsU w w' o e := by
  cases o with
  | none =>
    obtain ⟨rfl, hb⟩ := h
    exact ⟨_, _, _, rfl, ⟨⟨rfl, Or.inl ⟨rfl, rfl⟩⟩, hb⟩⟩
  | some t =>
    obtain ⟨v, rfl, hn⟩ := h
    obtain ⟨a, c, rfl⟩ := hn.rd.eq
    exact ⟨_, _, _, rfl, hn⟩
end
end Go.Proofs.YtimnhheagdhpgaaDoor
