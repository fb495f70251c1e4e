/- The contracts of check, Load, Dump and Check upon a memory of words. -/
import Derived.Test.YtdboplkgnnidcaaPatSum
import Derived.Test.YtdboplkgnnidcaaMemW
import Derived.Test.YtdboplkgnnidcaaSepc
set_option linter.unusedVariables false
namespace Pat
/-- The error of an area. -/
def chkE (size : Nat) (a n : Int) : Nat := if size = 0 then 2 else if n < 1 ∨ a < 0 ∨ (size : Int) < a ∨ (size : Int) - a < n then 1 else 0
def upd (want : List Nat) (a : Nat) (xs : List Nat) : List Nat := want.take a ++ xs ++ want.drop (a + xs.length)
theorem upd_nil (want : List Nat) (a : Nat) : upd want a [] = want := by simp [upd]
theorem upd_len (want : List Nat) (a : Nat) (xs : List Nat) (h : a + xs.length ≤ want.length) : (upd want a xs).length = want.length := by simp [upd]; omega
theorem upd_snoc (want : List Nat) (a : Nat) (xs : List Nat) (x : Nat) (h : a + xs.length < want.length) : (upd want a xs).set (a + xs.length) x = upd want a (xs ++ [x]) := by
  unfold upd
  have e : (want.take a ++ xs).length = a + xs.length := by simp; omega
  rw [List.set_append_right _ _ (by omega), e, Nat.sub_self]
  rw [List.drop_eq_getElem_cons (show a + xs.length < want.length by omega)]
  simp [Nat.add_assoc]
theorem upd_take (want : List Nat) (a : Nat) (xs : List Nat) (k : Nat) (hk : k < xs.length) (h : a + xs.length ≤ want.length) : (upd want a (xs.take k)).set (a + k) xs[k] = upd want a (xs.take (k + 1)) := by
  have := upd_snoc want a (xs.take k) xs[k] (by simp; omega)
  rw [List.take_succ_eq_append_getElem hk]
  rwa [List.length_take, Nat.min_eq_left (by omega)] at this
end Pat
namespace Go.Proofs.Ytdboplkgnnidcaa
open Go.RowKit Go.Proofs.Num
theorem cCheck (size : Nat) (hs : size ≤ 65536) (a n : Int) (ha : -9223372036854775808 ≤ a ∧ a < 9223372036854775808) (pv : Value) (w : World) (Q : World → Prop)
    (K : Calls Try.prog 48 #[pv] w fun e w' => e = .returned (.int .i64 (size : Nat)) ∧ Q w') :
    Calls Try.prog 43 #[pv, .int .i64 a, .int .i64 n] w fun e w' => e = .returned (.int .i64 (Pat.chkE size a n : Nat)) ∧ Q w' := by
  have HK := hid K
  clear K
  unfold Pat.chkE
  by_cases h0 : size = 0
  · subst h0
    rw [if_pos rfl]
    go_enter Try.func43, Try.ntmps43
    go_wp2_with fail
    refine HK.out.mono ?_; rintro e w1 ⟨rfl, hq⟩
    go_wp2_with fail
    go_ret
    exact ⟨rfl, hq⟩
  · rw [if_neg h0]
    have z0 : ((size : Int) == 0) = false := by simp; omega
    by_cases h1 : n < 1
    · rw [if_pos (Or.inl h1)]
      go_enter Try.func43, Try.ntmps43
      go_wp2_with fail
      refine HK.out.mono ?_; rintro e w1 ⟨rfl, hq⟩
      go_wp2_with fail
      go_ret
      exact ⟨rfl, hq⟩
    · by_cases h2 : a < 0
      · rw [if_pos (Or.inr (Or.inl h2))]
        go_enter Try.func43, Try.ntmps43
        go_wp2_with fail
        refine HK.out.mono ?_; rintro e w1 ⟨rfl, hq⟩
        go_wp2_with fail
        go_ret
        exact ⟨rfl, hq⟩
      · by_cases h3 : (size : Int) < a
        · rw [if_pos (Or.inr (Or.inr (Or.inl h3)))]
          go_enter Try.func43, Try.ntmps43
          go_wp2_with fail
          refine HK.out.mono ?_; rintro e w1 ⟨rfl, hq⟩
          go_wp2_with fail
          go_ret
          exact ⟨rfl, hq⟩
        · by_cases h4 : (size : Int) - a < n
          · rw [if_pos (Or.inr (Or.inr (Or.inr h4)))]
            go_enter Try.func43, Try.ntmps43
            go_wp2_with fail
            refine HK.out.mono ?_; rintro e w1 ⟨rfl, hq⟩
            go_wp2_with fail
            go_ret
            exact ⟨rfl, hq⟩
          · rw [if_neg (by omega)]
            go_enter Try.func43, Try.ntmps43
            go_wp2_with fail
            refine HK.out.mono ?_; rintro e w1 ⟨rfl, hq⟩
            go_wp2_with fail
            go_ret
            exact ⟨rfl, hq⟩
theorem cArea (size : Nat) (hs : size ≤ 65536) (a n : Int) (ha : -9223372036854775808 ≤ a ∧ a < 9223372036854775808) (w : World) :
    Calls Try.prog 23 #[.int .i64 size, .int .i64 a, .int .i64 n] w fun e w' => e = .returned (.int .i64 (Pat.chkE size a n : Nat)) ∧ w = w' := by
  unfold Pat.chkE
  by_cases h0 : size = 0
  · subst h0
    rw [if_pos rfl]
    go_enter Try.func23, Try.ntmps23
    go_wp2_with fail
    go_ret
    exact ⟨rfl, rfl⟩
  · rw [if_neg h0]
    have z0 : ((size : Int) == 0) = false := by simp; omega
    by_cases h1 : n < 1
    · rw [if_pos (Or.inl h1)]
      go_enter Try.func23, Try.ntmps23
      go_wp2_with fail
      go_ret
      exact ⟨rfl, rfl⟩
    · by_cases h2 : a < 0
      · rw [if_pos (Or.inr (Or.inl h2))]
        go_enter Try.func23, Try.ntmps23
        go_wp2_with fail
        go_ret
        exact ⟨rfl, rfl⟩
      · by_cases h3 : (size : Int) < a
        · rw [if_pos (Or.inr (Or.inr (Or.inl h3)))]
          go_enter Try.func23, Try.ntmps23
          go_wp2_with fail
          go_ret
          exact ⟨rfl, rfl⟩
        · by_cases h4 : (size : Int) - a < n
          · rw [if_pos (Or.inr (Or.inr (Or.inr h4)))]
            go_enter Try.func23, Try.ntmps23
            go_wp2_with fail
            go_ret
            exact ⟨rfl, rfl⟩
          · rw [if_neg (by omega)]
            go_enter Try.func23, Try.ntmps23
            go_wp2_with fail
            go_ret
            exact ⟨rfl, rfl⟩
end Go.Proofs.Ytdboplkgnnidcaa
