/- Runes of a string against its bytes: where the blanks are. No program in sight. -/
import Derived.Test.YtimnhheagdhpgaaDoorScrM
import Derived.Lib.TrimUEq
import Derived.Lib.SpaceUEq
set_option linter.unusedSimpArgs false
set_option linter.unusedVariables false
open Go Go.Lib
namespace Scr
/-- The bytes of a string. -/
abbrev bs (S : ByteArray) : Str := S.data.toList
theorem bs_size (S : ByteArray) : S.size = (bs S).length := rfl
theorem mk_bs (S : ByteArray) : (⟨(bs S).toArray⟩ : ByteArray) = S := by
  cases S with
  | mk d =>
    show (⟨d.toList.toArray⟩ : ByteArray) = ⟨d⟩
    rw [Array.toArray_toList]

theorem dec_blank (S : ByteArray) (pos : Nat) (h : (bs S).getD pos 0 = 32) : Utf8.decode S pos = (32, 1) := by
  rw [decode_N, h]; simp [decodeN]

theorem byte_lt (l : Str) (k : Nat) : (l.getD k 0).toNat < 256 := (l.getD k 0).toNat_lt
theorem ne_of_div {l : Str} {k : Nat} (h : (l.getD k 0).toNat / 64 = 2) : l.getD k 0 ≠ 32 := by
  intro e; rw [e] at h; revert h; decide

/-- A rune that does not begin at a blank: no blank, and none inside it. -/
theorem dec_other (S : ByteArray) (pos : Nat) (hp : pos < (bs S).length) (h : (bs S).getD pos 0 ≠ 32) :
    (Utf8.decode S pos).1 ≠ 32 ∧ 1 ≤ (Utf8.decode S pos).2 ∧ pos + (Utf8.decode S pos).2 ≤ (bs S).length ∧ ∀ j, pos ≤ j → j < pos + (Utf8.decode S pos).2 → (bs S).getD j 0 ≠ 32 := by
  have hN : Utf8.decode S pos = decodeN ((bs S).length - pos) ((bs S).getD pos 0).toNat ((bs S).getD (pos + 1) 0).toNat ((bs S).getD (pos + 2) 0).toNat ((bs S).getD (pos + 3) 0).toNat := decode_N S pos
  rw [hN]
  clear hN
  have h0 := byte_lt (bs S) pos
  have hn : ((bs S).getD pos 0).toNat ≠ 32 := fun e => h (UInt8.toNat_inj.1 e)
  unfold decodeN
  have one : ∀ j, pos ≤ j → j < pos + 1 → (bs S).getD j 0 ≠ 32 := fun j h1 h2 => by rw [show j = pos by omega]; exact h
  split
  · exact ⟨hn, by simp, by simp only; omega, one⟩
  split
  · rename_i hc
    split
    · refine ⟨by simp only; omega, by simp, by simp only; omega, ?_⟩
      intro j h1 h2
      simp only at h2
      rcases (show j = pos ∨ j = pos + 1 by omega) with e | e <;> rw [e]
      · exact h
      · exact ne_of_div hc.2.2
    · exact ⟨by simp, by simp, by simp only; omega, one⟩
  split
  · rename_i hc
    split
    · refine ⟨by simp only; omega, by simp, by simp only; omega, ?_⟩
      intro j h1 h2
      simp only at h2
      rcases (show j = pos ∨ j = pos + 1 ∨ j = pos + 2 by omega) with e | e | e <;> rw [e]
      · exact h
      · exact ne_of_div hc.2.1.2
      · exact ne_of_div hc.2.2.2
    · exact ⟨by simp, by simp, by simp only; omega, one⟩
  split
  · rename_i hc
    split
    · refine ⟨by simp only; omega, by simp, by simp only; omega, ?_⟩
      intro j h1 h2
      simp only at h2
      rcases (show j = pos ∨ j = pos + 1 ∨ j = pos + 2 ∨ j = pos + 3 by omega) with e | e | e | e <;> rw [e]
      · exact h
      · exact ne_of_div hc.2.1.2
      · exact ne_of_div hc.2.2.1.2
      · exact ne_of_div hc.2.2.2.2
    · exact ⟨by simp, by simp, by simp only; omega, one⟩
  · exact ⟨by simp, by simp, by simp only; omega, one⟩

theorem free_of {l : Str} {a b : Nat} (h : ∀ j, a ≤ j → j < b → l.getD j 0 ≠ 32) : 32 ∉ (l.drop a).take (b - a) := by
  intro hm
  obtain ⟨i, hi, he⟩ := List.getElem_of_mem hm
  simp only [List.length_take, List.length_drop] at hi
  rw [List.getElem_take, List.getElem_drop] at he
  apply h (a + i) (by omega) (by omega)
  rw [List.getD_eq_getElem?_getD, List.getElem?_eq_getElem (by omega), he]; rfl

/-- At a blank: a word is done. -/
theorem split_at {l : Str} {a b : Nat} (hab : a ≤ b) (hb : b < l.length) (h : ∀ j, a ≤ j → j < b → l.getD j 0 ≠ 32) (hc : l.getD b 0 = 32) :
    splitW (l.drop a) = (l.drop a).take (b - a) :: splitW (l.drop (b + 1)) := by
  rw [← split_app _ _ (free_of h)]
  congr 1
  have e : (l.drop a).drop (b - a) = 32 :: l.drop (b + 1) := by
    rw [List.drop_drop, show a + (b - a) = b by omega, List.drop_eq_getElem_cons hb]
    rw [List.getD_eq_getElem?_getD, List.getElem?_eq_getElem hb] at hc
    rw [show l[b] = 32 from hc]
  rw [← e, List.take_append_drop]
/-- At the end: the last word. -/
theorem split_end {l : Str} {a : Nat} (h : ∀ j, a ≤ j → j < l.length → l.getD j 0 ≠ 32) : splitW (l.drop a) = [l.drop a] := by
  apply split_free
  have := free_of h
  rwa [List.take_of_length_le (by simp)] at this

/-- script.words, with all of it in one value: the words and whether none is empty. -/
def okW (s : Str) : Bool := (splitW s).all (fun w => decide (w ≠ []))
end Scr
