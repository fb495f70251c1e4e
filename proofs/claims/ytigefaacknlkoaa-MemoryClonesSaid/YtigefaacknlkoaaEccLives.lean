/- The examples of the chapter on the error-correcting code. -/
import Derived.Test.YtigefaacknlkoaaEccFns
set_option linter.unusedVariables false
namespace Go.Proofs.Ytigefaacknlkoaa
open Go.RowKit Go.Proofs.Num
theorem d15_1 (w : World) : Calls Try.prog 15 #[.int .u64 1] w fun e w' => e = .returned (.tuple #[.int .u32 0, .int .i64 1]) ∧ Below w.heap.size w w' := by
  have h := c15 1 w (by decide); rw [show Ecc.dec 1 = (0, 1) by decide +kernel] at h; exact h
theorem d15_3 (w : World) : Calls Try.prog 15 #[.int .u64 3] w fun e w' => e = .returned (.tuple #[.int .u32 0, .int .i64 2]) ∧ Below w.heap.size w w' := by
  have h := c15 3 w (by decide); rw [show Ecc.dec 3 = (0, 2) by decide +kernel] at h; exact h
theorem d15_15 (w : World) : Calls Try.prog 15 #[.int .u64 15] w fun e w' => e = .returned (.tuple #[.int .u32 1, .int .i64 0]) ∧ Below w.heap.size w w' := by
  have h := c15 15 w (by decide); rw [show Ecc.dec 15 = (1, 0) by decide +kernel] at h; exact h
theorem d15_7 (w : World) : Calls Try.prog 15 #[.int .u64 7] w fun e w' => e = .returned (.tuple #[.int .u32 1, .int .i64 1]) ∧ Below w.heap.size w w' := by
  have h := c15 7 w (by decide); rw [show Ecc.dec 7 = (1, 1) by decide +kernel] at h; exact h
theorem d16_7 (w : World) : Calls Try.prog 16 #[.int .u64 7] w fun e w' => e = .returned (.tuple #[.int .u64 15, .int .i64 1]) ∧ Below w.heap.size w w' := by
  have h := c16 7 w (by decide); rw [show Ecc.rep 7 = (15, 1) by decide +kernel] at h; exact h
theorem d14_0 (w : World) : Calls Try.prog 14 #[.int .u32 0] w fun e w' => e = .returned (.int .u64 0) ∧ Below w.heap.size w w' := by
  have h := c14 0 w (by decide); rw [show Ecc.enc 0 = 0 by decide +kernel] at h; exact h
theorem d14_1 (w : World) : Calls Try.prog 14 #[.int .u32 1] w fun e w' => e = .returned (.int .u64 15) ∧ Below w.heap.size w w' := by
  have h := c14 1 w (by decide); rw [show Ecc.enc 1 = 15 by decide +kernel] at h; exact h
theorem d18_10 (w : World) : Calls Try.prog 18 #[.int .u64 10] w fun e w' => e = .returned (.int .i64 2) ∧ Below w.heap.size w w' := by
  have h := c18 10 w (by decide); rw [show Ecc.syn 10 = 2 by decide +kernel] at h; exact h
theorem d23_38 (w : World) : Calls Try.prog 23 #[.int .u64 0, .int .i64 38] w fun e w' => e = .returned (.int .u64 274877906944) ∧ w = w' := by
  have h := c23 0 38 w (by decide); rw [show Ecc.flp 0 38 = 274877906944 by decide +kernel] at h; exact h
theorem d23_39 (w : World) : Calls Try.prog 23 #[.int .u64 5, .int .i64 39] w fun e w' => e = .returned (.int .u64 5) ∧ w = w' := by
  have h := c23 5 39 w (by decide); rw [show Ecc.flp 5 39 = 5 by decide +kernel] at h; exact h
set_option maxRecDepth 100000 in
theorem c19 (w : World) : Calls Try.prog 19 #[] w fun e w' => e = .returned (.bool true) ∧ Below w.heap.size w w' := by
  have h0 := Below.refl w.heap.size w
  go_enter Try.func19, Try.ntmps19
  go_wp2_with fail
  refine (from_below (by assumption) (d15_1 _)).mono ?_; rintro e w1 ⟨rfl, h1⟩
  clear h0
  go_wp2_with fail
  refine (from_below (by assumption) (d15_3 _)).mono ?_; rintro e w2 ⟨rfl, h2⟩
  clear h1
  go_wp2_with fail
  refine (from_below (by assumption) (d15_15 _)).mono ?_; rintro e w3 ⟨rfl, h3⟩
  clear h2
  go_wp2_with fail
  refine (from_below (by assumption) (d15_7 _)).mono ?_; rintro e w4 ⟨rfl, h4⟩
  clear h3
  go_wp2_with fail
  refine (from_below (by assumption) (d16_7 _)).mono ?_; rintro e w5 ⟨rfl, h5⟩
  clear h4
  go_wp2_with fail
  refine (from_below (by assumption) (d14_0 _)).mono ?_; rintro e w6 ⟨rfl, h6⟩
  clear h5
  go_wp2_with fail
  refine (from_below (by assumption) (d14_1 _)).mono ?_; rintro e w7 ⟨rfl, h7⟩
  clear h6
  go_wp2_with fail
  refine (from_below (by assumption) (d18_10 _)).mono ?_; rintro e w8 ⟨rfl, h8⟩
  clear h7
  go_wp2_with fail
  refine (d23_38 _).mono ?_; rintro e w9 ⟨rfl, rfl⟩
  go_wp2_with fail
  refine (d23_39 _).mono ?_; rintro e w10 ⟨rfl, rfl⟩
  go_wp2_with fail
  go_ret
  exact ⟨rfl, h8⟩
end Go.Proofs.Ytigefaacknlkoaa
