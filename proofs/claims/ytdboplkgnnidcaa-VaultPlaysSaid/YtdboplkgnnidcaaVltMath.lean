/- Bytes packed into words, zeros behind them, and the copies of an image. No program in sight. -/
import Derived.Test.YtdboplkgnnidcaaOctMath
import Derived.Test.YtdboplkgnnidcaaCrcMath
set_option linter.unusedVariables false
namespace Vlt
/-- Word i of the bytes l, zeros behind them. -/
def wd (l : List Nat) (i : Nat) : Nat := Pat.w4 (l.getD (4 * i) 0) (l.getD (4 * i + 1) 0) (l.getD (4 * i + 2) 0) (l.getD (4 * i + 3) 0)
def packW (k : Nat) (l : List Nat) : List Nat := (List.range k).map (wd l)
def room (n : Nat) : Nat := (n + 3) / 4
def crcOf (l : List Nat) : Nat := 4294967295 - Crc.crc32 4294967295 l
/-- The words of a copy ahead of its check sum. -/
def headV (g : Nat) (b : List Nat) : List Nat := g :: b.length :: packW (room b.length) b
def wordsV (g : Nat) (b : List Nat) : List Nat := headV g b ++ [crcOf (Pat.bytesOf (headV g b))]
theorem packW_len (k : Nat) (l : List Nat) : (packW k l).length = k := by simp [packW]
theorem headV_len (g : Nat) (b : List Nat) : (headV g b).length = room b.length + 2 := by simp [headV, packW_len]
theorem wordsV_len (g : Nat) (b : List Nat) : (wordsV g b).length = room b.length + 3 := by simp [wordsV, headV_len]
theorem getD_lt {l : List Nat} (h : ∀ x ∈ l, x < 256) (i : Nat) : l.getD i 0 < 256 := by
  rw [List.getD_eq_getElem?_getD]
  cases e : l[i]? with
  | none => simp
  | some x => simpa using h x (List.mem_of_getElem? e)
theorem wd_lt {l : List Nat} (h : ∀ x ∈ l, x < 256) (i : Nat) : wd l i < 4294967296 := Pat.w4_lt _ _ _ _ (getD_lt h _) (getD_lt h _) (getD_lt h _) (getD_lt h _)
theorem packW_lt {l : List Nat} (h : ∀ x ∈ l, x < 256) (k : Nat) : ∀ y ∈ packW k l, y < 4294967296 := by
  intro y hy
  simp only [packW, List.mem_map, List.mem_range] at hy
  obtain ⟨i, _, rfl⟩ := hy
  exact wd_lt h i
theorem packW_nil (k : Nat) : packW k [] = List.replicate k 0 := by
  apply List.ext_getElem
  · simp [packW_len]
  · intro i h1 h2
    simp [packW, wd, Pat.w4]
theorem or_add (a b i : Nat) (h : b < 2 ^ i) : 2 ^ i * a ||| b = 2 ^ i * a + b := (Nat.two_pow_add_eq_or_of_lt h a).symm
theorem getD_take (l : List Nat) (j i : Nat) : (l.take j).getD i 0 = if i < j then l.getD i 0 else 0 := by
  simp only [List.getD_eq_getElem?_getD, List.getElem?_take]
  split <;> rfl
theorem or_w0 (x m : Nat) (hm : m = 16777216) : Pat.w4 0 0 0 0 ||| x * m = Pat.w4 x 0 0 0 := by
  subst hm
  have : Pat.w4 0 0 0 0 = 0 := by decide
  rw [this, Nat.zero_or]; unfold Pat.w4; omega
theorem or_w1 (a x m : Nat) (hx : x < 256) (hm : m = 65536) : Pat.w4 a 0 0 0 ||| x * m = Pat.w4 a x 0 0 := by
  subst hm
  have := or_add a (x * 65536) 24 (by omega)
  have e : Pat.w4 a 0 0 0 = 2 ^ 24 * a := by unfold Pat.w4; omega
  rw [e, this]; unfold Pat.w4; omega
theorem or_w2 (a b x m : Nat) (hx : x < 256) (hm : m = 256) : Pat.w4 a b 0 0 ||| x * m = Pat.w4 a b x 0 := by
  subst hm
  have := or_add (a * 256 + b) (x * 256) 16 (by omega)
  have e : Pat.w4 a b 0 0 = 2 ^ 16 * (a * 256 + b) := by unfold Pat.w4; omega
  rw [e, this]; unfold Pat.w4; omega
theorem or_w3 (a b c x m : Nat) (hx : x < 256) (hm : m = 1) : Pat.w4 a b c 0 ||| x * m = Pat.w4 a b c x := by
  subst hm
  have := or_add (a * 65536 + b * 256 + c) (x * 1) 8 (by omega)
  have e : Pat.w4 a b c 0 = 2 ^ 8 * (a * 65536 + b * 256 + c) := by unfold Pat.w4; omega
  rw [e, this]; unfold Pat.w4; omega
theorem wd_step (l : List Nat) (j : Nat) (hj : j < l.length) (hl : ∀ x ∈ l, x < 256) : wd (l.take j) (j / 4) ||| l[j] * 2 ^ (24 - 8 * (j % 4)) = wd (l.take (j + 1)) (j / 4) := by
  have hx : l[j] = l.getD j 0 := by simp [List.getD_eq_getElem?_getD, hj]
  rw [hx]
  have hb := getD_lt hl
  unfold wd
  simp only [getD_take]
  obtain ⟨i, r, hr, rfl⟩ : ∃ i r, r < 4 ∧ j = 4 * i + r := ⟨j / 4, j % 4, by omega, by omega⟩
  have e1 : (4 * i + r) / 4 = i := by omega
  have e2 : (4 * i + r) % 4 = r := by omega
  rw [e1, e2]
  clear e1 e2 hj hx
  have hm : ∀ m, m = 2 ^ (24 - 8 * r) → Pat.w4 (if 4 * i < 4 * i + r then l.getD (4 * i) 0 else 0) (if 4 * i + 1 < 4 * i + r then l.getD (4 * i + 1) 0 else 0) (if 4 * i + 2 < 4 * i + r then l.getD (4 * i + 2) 0 else 0) (if 4 * i + 3 < 4 * i + r then l.getD (4 * i + 3) 0 else 0) ||| l.getD (4 * i + r) 0 * m =
      Pat.w4 (if 4 * i < 4 * i + r + 1 then l.getD (4 * i) 0 else 0) (if 4 * i + 1 < 4 * i + r + 1 then l.getD (4 * i + 1) 0 else 0) (if 4 * i + 2 < 4 * i + r + 1 then l.getD (4 * i + 2) 0 else 0) (if 4 * i + 3 < 4 * i + r + 1 then l.getD (4 * i + 3) 0 else 0) := by
    intro m hm
    match r, hr with
    | 0, _ =>
      rw [if_neg (by omega), if_neg (by omega), if_neg (by omega), if_neg (by omega), if_pos (by omega), if_neg (by omega), if_neg (by omega), if_neg (by omega)]
      exact or_w0 _ m (by rw [hm])
    | 1, _ =>
      rw [if_pos (by omega), if_neg (by omega), if_neg (by omega), if_neg (by omega), if_pos (by omega), if_pos (by omega), if_neg (by omega), if_neg (by omega)]
      exact or_w1 _ _ m (hb _) (by rw [hm])
    | 2, _ =>
      rw [if_pos (by omega), if_pos (by omega), if_neg (by omega), if_neg (by omega), if_pos (by omega), if_pos (by omega), if_pos (by omega), if_neg (by omega)]
      exact or_w2 _ _ _ m (hb _) (by rw [hm])
    | 3, _ =>
      rw [if_pos (by omega), if_pos (by omega), if_pos (by omega), if_neg (by omega), if_pos (by omega), if_pos (by omega), if_pos (by omega), if_pos (by omega)]
      exact or_w3 _ _ _ _ m (hb _) (by rw [hm])
  exact hm _ rfl
theorem wd_same (l : List Nat) (j i : Nat) (h : i ≠ j / 4) : wd (l.take (j + 1)) i = wd (l.take j) i := by
  unfold wd
  simp only [getD_take]
  have hh : ∀ c, c < 4 → (if 4 * i + c < j + 1 then l.getD (4 * i + c) 0 else 0) = if 4 * i + c < j then l.getD (4 * i + c) 0 else 0 := by
    intro c hc
    by_cases h1 : 4 * i + c < j
    · rw [if_pos h1, if_pos (by omega)]
    · rw [if_neg h1, if_neg (by omega)]
  have h0 := hh 0 (by omega)
  rw [Nat.add_zero] at h0
  rw [h0, hh 1 (by omega), hh 2 (by omega), hh 3 (by omega)]
theorem pack_step (l : List Nat) (k j : Nat) (hj : j < l.length) (hl : ∀ x ∈ l, x < 256) : packW k (l.take (j + 1)) = (packW k (l.take j)).set (j / 4) (wd (l.take j) (j / 4) ||| l[j] * 2 ^ (24 - 8 * (j % 4))) := by
  rw [wd_step l j hj hl]
  apply List.ext_getElem
  · simp [packW_len]
  · intro i h1 h2
    rw [List.getElem_set]
    simp only [packW, List.getElem_map, List.getElem_range]
    split
    · next h => rw [h]
    · next h => exact wd_same l j i (fun e => h e.symm)
theorem be4_w4 (a b c d : Nat) (ha : a < 256) (hb : b < 256) (hc : c < 256) (hd : d < 256) : Pat.be4 (Pat.w4 a b c d) = [a, b, c, d] := by
  have h0 : Pat.w4 a b c d / 16777216 % 256 = a := by unfold Pat.w4; omega
  have h1 : Pat.w4 a b c d / 65536 % 256 = b := by unfold Pat.w4; omega
  have h2 : Pat.w4 a b c d / 256 % 256 = c := by unfold Pat.w4; omega
  have h3 : Pat.w4 a b c d % 256 = d := by unfold Pat.w4; omega
  unfold Pat.be4
  rw [h0, h1, h2, h3]
theorem bytesOf_pack (k : Nat) (l : List Nat) (hl : ∀ x ∈ l, x < 256) (i : Nat) (hi : i < 4 * k) : (Pat.bytesOf (packW k l)).getD i 0 = l.getD i 0 := by
  induction k with
  | zero => omega
  | succ k ih =>
    have e : packW (k + 1) l = packW k l ++ [wd l k] := by simp [packW, List.range_succ]
    rw [e, Pat.bytesOf_snoc]
    have hlen : (Pat.bytesOf (packW k l)).length = 4 * k := by rw [Pat.bytesOf_len, packW_len]
    simp only [List.getD_eq_getElem?_getD] at ih ⊢
    by_cases h : i < 4 * k
    · rw [List.getElem?_append_left (by omega)]
      exact ih h
    · rw [List.getElem?_append_right (by omega), hlen]
      have hb := getD_lt hl
      obtain ⟨r, hr, rfl⟩ : ∃ r, r < 4 ∧ i = 4 * k + r := ⟨i - 4 * k, by omega, by omega⟩
      rw [show 4 * k + r - 4 * k = r by omega, ← List.getD_eq_getElem?_getD (l := l)]
      have e4 : Pat.be4 (wd l k) = [l.getD (4 * k) 0, l.getD (4 * k + 1) 0, l.getD (4 * k + 2) 0, l.getD (4 * k + 3) 0] := be4_w4 _ _ _ _ (hb _) (hb _) (hb _) (hb _)
      rw [e4]
      match r, hr with
      | 0, _ => rfl
      | 1, _ => rfl
      | 2, _ => rfl
      | 3, _ => rfl
theorem take_pack (l : List Nat) (hl : ∀ x ∈ l, x < 256) : (Pat.bytesOf (packW (room l.length) l)).take l.length = l := by
  apply List.ext_getElem
  · rw [List.length_take, Pat.bytesOf_len, packW_len]; unfold room; omega
  · intro i h1 h2
    have h := bytesOf_pack (room l.length) l hl i (by unfold room; omega)
    rw [List.getElem_take]
    have hlt : i < (Pat.bytesOf (packW (room l.length) l)).length := by rw [Pat.bytesOf_len, packW_len]; unfold room; omega
    simpa [List.getD_eq_getElem?_getD, hlt, h2] using h
end Vlt
