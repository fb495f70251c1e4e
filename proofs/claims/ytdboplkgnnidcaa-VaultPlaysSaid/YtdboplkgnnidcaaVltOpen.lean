/- The contracts of the vault's Open; what its methods answer at nil. -/
import Derived.Test.YtdboplkgnnidcaaVltNew
set_option linter.unusedVariables false
set_option linter.unusedSimpArgs false
namespace Go.Proofs.Ytdboplkgnnidcaa
open Go.RowKit Go.Proofs.Num
theorem cReadNil (w : World) (i : Int) : Calls Try.prog 36 #[.pointer none, .int .i64 i] w fun e w' => e = .returned (.tuple #[.int .u32 0, .int .i64 2]) ∧ w = w' := by
  go_enter Try.func36, Try.ntmps36
  go_wp2_with (go_at_call 44; refine (c51n _ _).mono ?_; rintro e w' ⟨rfl, rfl⟩)
  go_ret2
  exact ⟨rfl, rfl⟩
theorem cOpenNil (w : World) (a n : Int) : Calls Try.prog 28 #[.pointer none, .int .i64 a, .int .i64 n] w fun e w' => e = .returned (.tuple #[.pointer none, .int .i64 2]) ∧ w = w' := by
  go_enter Try.func28, Try.ntmps28
  go_wp2_with fail
  refine (cReadNil w (-1)).mono ?_
  rintro e w' ⟨rfl, rfl⟩
  go_wp2_with fail
  go_ret2
  exact ⟨rfl, rfl⟩
theorem cLoadNil (w : World) : Calls Try.prog 31 #[.pointer none] w fun e w' => e = .returned (.tuple #[.slice none 0 0, .int .i64 2]) ∧ w = w' := by
  go_enter Try.func31, Try.ntmps31
  go_wp2_with fail
  refine (cUsableNil w).mono ?_
  rintro e w' ⟨rfl, rfl⟩
  go_wp2_with fail
  go_ret2
  exact ⟨rfl, rfl⟩
theorem cOlderNil (w : World) : Calls Try.prog 47 #[.pointer none] w fun e w' => e = .returned (.int .i64 0) ∧ w = w' := by
  go_enter Try.func47, Try.ntmps47
  go_wp2_with fail
  refine (cUsableNil w).mono ?_
  rintro e w' ⟨rfl, rfl⟩
  go_wp2_with fail
  go_ret
  exact ⟨rfl, rfl⟩
section
variable {W w : World} {l : List HProp} (hl : ∀ B ∈ l, Stable B) (p K : Nat) (want : List Nat) (hK : K < 100000000000) (hw : want.length ≤ 65536) (hs : Sts W (wordP p K want :: l) w)
include hl hK hw hs
/-- What Open leaves when it accepts. -/
def OpenEnd (W : World) (p K at' half : Nat) (want : List Nat) (l : List HProp) (e : Ending) (w' : World) : Prop :=
  ∃ q, e = .returned (.tuple #[.pointer (some ⟨q, 0, none⟩), .int .i64 0]) ∧ Sts W (vaultP q p at' half :: wordP p K want :: l) w'
set_option maxRecDepth 100000 in
theorem cOpen (a n : Nat) (h8 : 8 ≤ n) (hf : a + n ≤ want.length) : Calls Try.prog 28 #[.pointer (some ⟨p, 0, none⟩), .int .i64 a, .int .i64 n] w (OpenEnd W p K a (n / 2) want l) := by
  have H0 := hid (Sts.callV hl hs (wReadOut hK (-1) (Or.inl (by omega))))
  clear hs
  go_enter Try.func28, Try.ntmps28
  go_wp2_with fail
  refine H0.out.mono ?_
  rintro e w1 ⟨rfl, hs1⟩
  have H1 := hid (Sts.callV hl hs1 wSize)
  clear hs1 H0
  have h9 : ¬ ((n : Int) < 8) := by omega
  have hd : decide ((n : Int) < 8) = false := decide_eq_false h9
  have he : decide ((want.length : Int) - (a : Int) < (n : Int)) = false := decide_eq_false (by omega)
  have ha : decide ((a : Int) < 0) = false := decide_eq_false (by omega)
  generalize want.length = m at *
  go_wp2_with fail
  refine H1.out.mono ?_
  rintro e w2 ⟨rfl, hs2⟩
  have HS := hid hs2
  clear hs2
  have hst : ∀ B ∈ wordP p K want :: l, Stable B := stabC (wordP_stable _ _ _) hl
  go_wp2_with fail
  go_ret2
  refine ⟨_, rfl, ?_⟩
  have := HS.out.alloc hst (.cells (vcells p a (n / 2)) 88 (0, 0))
  exact this
set_option maxRecDepth 100000 in
theorem cOpenBad (a n : Int) (ha : -9223372036854775808 ≤ a) (ha2 : a ≤ 9223372036854775807) (hn : n ≤ 9223372036854775807) (h : a < 0 ∨ n < 8 ∨ (want.length : Int) - a < n) :
    Calls Try.prog 28 #[.pointer (some ⟨p, 0, none⟩), .int .i64 a, .int .i64 n] w fun e w' => e = .returned (.tuple #[.pointer none, .int .i64 1]) ∧ Sts W (wordP p K want :: l) w' := by
  have H0 := hid (Sts.callV hl hs (wReadOut hK (-1) (Or.inl (by omega))))
  clear hs
  by_cases h1 : a < 0
  · have d1 : decide (a < 0) = true := decide_eq_true h1
    go_enter Try.func28, Try.ntmps28
    go_wp2_with fail
    refine H0.out.mono ?_
    rintro e w1 ⟨rfl, hs1⟩
    have HS := hid hs1
    clear hs1 H0
    go_wp2_with fail
    go_ret2
    exact ⟨rfl, HS.out⟩
  · have d1 : decide (a < 0) = false := decide_eq_false h1
    by_cases h2 : n < 8
    · have d2 : decide (n < 8) = true := decide_eq_true h2
      go_enter Try.func28, Try.ntmps28
      go_wp2_with fail
      refine H0.out.mono ?_
      rintro e w1 ⟨rfl, hs1⟩
      have HS := hid hs1
      clear hs1 H0
      go_wp2_with fail
      go_ret2
      exact ⟨rfl, HS.out⟩
    · have d2 : decide (n < 8) = false := decide_eq_false h2
      have h3 : (want.length : Int) - a < n := by omega
      have d3 : decide ((want.length : Int) - a < n) = true := decide_eq_true h3
      go_enter Try.func28, Try.ntmps28
      go_wp2_with fail
      refine H0.out.mono ?_
      rintro e w1 ⟨rfl, hs1⟩
      have H1 := hid (Sts.callV hl hs1 wSize)
      clear hs1 H0
      generalize want.length = m at *
      go_wp2_with fail
      refine H1.out.mono ?_
      rintro e w2 ⟨rfl, hs2⟩
      have HS := hid hs2
      clear hs2 H1
      go_wp2_with fail
      go_ret2
      exact ⟨rfl, HS.out⟩
end
end Go.Proofs.Ytdboplkgnnidcaa
