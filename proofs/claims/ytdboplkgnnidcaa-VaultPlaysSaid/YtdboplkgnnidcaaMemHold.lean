/- Words of which each differs from a code word in at most one bit: what reading, writing, inverting and scrubbing make of them. No program in sight. -/
import Derived.Test.YtdboplkgnnidcaaMemMath
set_option linter.unusedVariables false
namespace Ecc
/-- x is the code word of v, but for one inverted bit if u. -/
def Cell (x v : Nat) (u : Bool) : Prop := v < 4294967296 ∧ ((u = false ∧ x = enc v) ∨ (u = true ∧ ∃ b, b < 39 ∧ x = enc v ^^^ 2 ^ b))
theorem Cell.rep {x v : Nat} {u : Bool} (h : Cell x v u) : rep x = (enc v, if u then 1 else 0) := by
  obtain ⟨hv, ⟨rfl, rfl⟩ | ⟨rfl, b, hb, rfl⟩⟩ := h
  · simpa using rep_enc v (by omega)
  · simpa using rep_one v b (by omega) hb
theorem Cell.made {v : Nat} (h : v < 4294967296) : Cell (enc v) v false := ⟨h, Or.inl ⟨rfl, rfl⟩⟩
structure Held (ws want : List Nat) (up : List Bool) (n : Nat) : Prop where
  l1 : ws.length = n
  l2 : want.length = n
  l3 : up.length = n
  cell : ∀ i, i < n → Cell (ws.getD i 0) (want.getD i 0) (up.getD i false)
theorem getD_set_same {α : Type} (l : List α) (i : Nat) (x d : α) (h : i < l.length) : (l.set i x).getD i d = x := by simp [List.getD, h]
theorem getD_set_ne {α : Type} (l : List α) (i j : Nat) (x d : α) (h : i ≠ j) : (l.set i x).getD j d = l.getD j d := by simp [List.getD, List.getElem?_set_ne h]
theorem set_getD {α : Type} (l : List α) (i : Nat) (d : α) : l.set i (l.getD i d) = l := by
  by_cases h : i < l.length
  · simp [List.getD, h]
  · exact List.set_eq_of_length_le (by omega)
section
variable {ws want : List Nat} {up : List Bool} {n : Nat}
theorem Held.set (H : Held ws want up n) (i x v : Nat) (u : Bool) (h : Cell x v u) : Held (ws.set i x) (want.set i v) (up.set i u) n := by
  refine ⟨by simp [H.l1], by simp [H.l2], by simp [H.l3], fun j hj => ?_⟩
  by_cases e : i = j
  · subst e
    rw [getD_set_same _ _ _ _ (by rw [H.l1]; exact hj), getD_set_same _ _ _ _ (by rw [H.l2]; exact hj), getD_set_same _ _ _ _ (by rw [H.l3]; exact hj)]
    exact h
  · rw [getD_set_ne _ _ _ _ _ e, getD_set_ne _ _ _ _ _ e, getD_set_ne _ _ _ _ _ e]; exact H.cell j hj
theorem Held.val (H : Held ws want up n) (i : Nat) (hi : i < n) : want.getD i 0 < 4294967296 := (H.cell i hi).1
theorem Held.clean (H : Held ws want up n) (i : Nat) (hi : i < n) : Held (ws.set i (enc (want.getD i 0))) want (up.set i false) n := by
  have := H.set i _ (want.getD i 0) false (Cell.made (H.val i hi))
  rwa [set_getD] at this
theorem Held.rpr (H : Held ws want up n) (c i : Nat) (hi : i < n) : rpr ws c i = (if up.getD i false then 1 else 0, ws.set i (enc (want.getD i 0)), c + if up.getD i false then 1 else 0) := by
  have h := H.cell i hi
  unfold Ecc.rpr
  rw [h.rep]
  obtain ⟨hv, ⟨h1, h2⟩ | ⟨h1, b, hb, h2⟩⟩ := h
  · rw [h1]; simp only [Bool.false_eq_true, if_false]; rw [← h2, set_getD]; simp
  · rw [h1]; simp
theorem Held.not_out (H : Held ws want up n) (i : Nat) (hi : i < n) : out ws (i : Int) = false := by
  simp [out]; rw [H.l1]; omega
theorem Held.read (H : Held ws want up n) (c i : Nat) (hi : i < n) : mread ws c (i : Int) = (want.getD i 0, 0, ws.set i (enc (want.getD i 0)), c + if up.getD i false then 1 else 0) := by
  unfold mread
  rw [H.not_out i hi]
  simp only [Int.toNat_natCast, Bool.false_eq_true, if_false]
  rw [H.rpr c i hi, (H.cell i hi).rep, dat_enc _ (by have := H.val i hi; omega)]
  have : ¬ ((if up.getD i false = true then (1 : Nat) else 0) = 2) := by split <;> simp
  rw [if_neg this]
theorem Held.write (H : Held ws want up n) (i v : Nat) (hi : i < n) (hv : v < 4294967296) : mwrite ws (i : Int) v = (0, ws.set i (enc v)) ∧ Held (ws.set i (enc v)) (want.set i v) (up.set i false) n := by
  refine ⟨?_, H.set i _ v false (Cell.made hv)⟩
  unfold mwrite; rw [H.not_out i hi]; simp
theorem Held.flip (H : Held ws want up n) (i b : Nat) (hi : i < n) (hb : b < 39) (hu : up.getD i false = false) :
    mflip ws (i : Int) (b : Int) = (0, ws.set i (flp (ws.getD i 0) b)) ∧ Held (ws.set i (flp (ws.getD i 0) b)) want (up.set i true) n := by
  have h1 : ¬ ((b : Int) < 0 ∨ (38 : Int) < b) := by omega
  have h2 : flp (ws.getD i 0) b = enc (want.getD i 0) ^^^ 2 ^ b := by
    obtain ⟨hv, ⟨_, h2⟩ | ⟨h3, _⟩⟩ := H.cell i hi
    · unfold flp; rw [if_neg h1, h2]; simp
    · rw [hu] at h3; cases h3
  constructor
  · unfold mflip; rw [H.not_out i hi]
    rw [if_neg (by simp; omega)]; simp
  · have := H.set i (flp (ws.getD i 0) b) (want.getD i 0) true ⟨H.val i hi, Or.inr ⟨rfl, b, hb, h2⟩⟩
    rwa [set_getD] at this
theorem Held.again (H : Held ws want up n) (i : Nat) (hu : up.getD i false = true) : Held ws want (up.set i true) n := by
  have : up.set i true = up := by rw [← hu, set_getD]
  rw [this]; exact H
theorem count_false (up : List Bool) (i : Nat) (hi : i < up.length) : (up.set i false).count true + (if up.getD i false then 1 else 0) = up.count true := by
  have e : up.getD i false = up[i] := by simp [List.getD, hi]
  rw [List.count_set hi, e]
  cases h : up[i] with
  | false => simp
  | true =>
    have : 0 < up.count true := List.count_pos_iff.2 (by rw [← h]; exact List.getElem_mem hi)
    simp; omega
theorem Held.scr (H : Held ws want up n) (c a : Nat) (hn : 0 < n) : ∀ k, k ≤ n → ∃ up', Held (scr ws c a k).2.2.1 want up' n ∧ (scr ws c a k).2.1 = 0 ∧ (scr ws c a k).1 + up'.count true = up.count true ∧
    ∀ j, j < k → up'.getD ((a + j) % n) false = false
  | 0, _ => ⟨up, H, rfl, by simp [Ecc.scr], fun j hj => absurd hj (by omega)⟩
  | k + 1, hk => by
    obtain ⟨up', h1, h2, h3, h4⟩ := Held.scr H c a hn k (by omega)
    have hp : (a + k) % n < n := Nat.mod_lt _ hn
    have hr := h1.rpr (Ecc.scr ws c a k).2.2.2 _ hp
    have hc := count_false up' ((a + k) % n) (by rw [h1.l3]; exact hp)
    refine ⟨up'.set ((a + k) % n) false, ?_, ?_, ?_, ?_⟩
    · rw [scr_succ, H.l1, hr]; exact h1.clean _ hp
    · rw [scr_succ, H.l1, hr]
      simp only
      rw [if_neg (by split <;> simp)]; exact h2
    · rw [scr_succ, H.l1, hr]
      simp only
      generalize up'.getD ((a + k) % n) false = u at hc ⊢
      cases u <;> simp at hc ⊢ <;> omega
    · intro j hj
      by_cases e : (a + k) % n = (a + j) % n
      · rw [← e]; exact getD_set_same _ _ _ _ (by rw [h1.l3]; exact hp)
      · rw [getD_set_ne _ _ _ _ _ e]
        rcases Nat.lt_or_ge j k with h | h
        · exact h4 j h
        · have : j = k := by omega
          subst this; exact absurd rfl e
theorem all_false (up : List Bool) (n : Nat) (hl : up.length = n) (h : ∀ i, i < n → up.getD i false = false) : up = List.replicate n false := by
  refine List.ext_getElem (by simp [hl]) fun i h1 h2 => ?_
  have := h i (by omega)
  have e : up.getD i false = up[i] := by simp [List.getD, h1]
  rw [e] at this
  simp [this]
theorem Held.scrub (H : Held ws want up n) (c i : Nat) (hi : i < n) : ∃ ws' c', mscrub ws c (i : Int) (n : Int) = (up.count true, 0, ws', c') ∧ c' = c + up.count true ∧ Held ws' want (List.replicate n false) n := by
  obtain ⟨up', h1, h2, h3, h4⟩ := H.scr c i (by omega) n (Nat.le_refl _)
  have hall : up' = List.replicate n false := by
    refine all_false up' n h1.l3 fun j hj => ?_
    have e : (i + (j + n - i) % n) % n = j := by
      rcases Nat.lt_or_ge j i with h | h
      · rw [Nat.mod_eq_of_lt (show j + n - i < n by omega), show i + (j + n - i) = j + n by omega, Nat.add_mod_right, Nat.mod_eq_of_lt hj]
      · rw [show j + n - i = (j - i) + n by omega, Nat.add_mod_right, Nat.mod_eq_of_lt (show j - i < n by omega), show i + (j - i) = j by omega, Nat.mod_eq_of_lt hj]
    have := h4 ((j + n - i) % n) (Nat.mod_lt _ (by omega))
    rwa [e] at this
  have hcnt : (List.replicate n false).count true = 0 := by simp [List.count_replicate]
  rw [hall] at h1 h3
  rw [hcnt] at h3
  have hr : rounds ws (n : Int) = n := by unfold rounds; rw [H.l1]; simp
  have hs := scr_cnt ws c i n
  refine ⟨(Ecc.scr ws c i n).2.2.1, (Ecc.scr ws c i n).2.2.2, ?_, by omega, h1⟩
  unfold mscrub
  rw [H.not_out i hi]
  simp only [Int.toNat_natCast, Bool.false_eq_true, if_false]
  rw [hr]
  refine Prod.ext ?_ (Prod.ext h2 rfl)
  show (Ecc.scr ws c i n).1 = _
  omega
theorem held_zero (n : Nat) : Held (List.replicate n 0) (List.replicate n 0) (List.replicate n false) n := by
  refine ⟨by simp, by simp, by simp, fun i hi => ?_⟩
  have e0 : enc 0 = 0 := by decide
  have e1 : (List.replicate n 0).getD i 0 = 0 := by simp [List.getD, hi]
  have e2 : (List.replicate n false).getD i false = false := by simp [List.getD, hi]
  rw [e1, e2]
  have := Cell.made (v := 0) (by decide)
  rwa [e0] at this
end
end Ecc
