/- The memory's methods at nil and at the zero value; the law MemoryNone: its walk. -/
import Derived.Test.YtigefaacknlkoaaMemStep
import Derived.Test.YtigefaacknlkoaaMemLives
set_option linter.unusedVariables false
namespace Go.Proofs.Ytigefaacknlkoaa
open Go.RowKit Go.Proofs.Num
section
variable (w : World)
theorem c28n : Calls Try.prog 28 #[.pointer none] w fun e w' => e = .returned (.int .i64 0) ∧ w = w' := by
  go_enter Try.func28, Try.ntmps28
  go_wp2_with (go_at_call 46; refine (c46n _).mono ?_; rintro e w' ⟨rfl, rfl⟩)
  go_ret
  exact ⟨rfl, rfl⟩
theorem c31n : Calls Try.prog 31 #[.pointer none] w fun e w' => e = .returned (.int .i64 0) ∧ w = w' := by
  go_enter Try.func31, Try.ntmps31
  go_wp2_with (go_at_call 46; refine (c46n _).mono ?_; rintro e w' ⟨rfl, rfl⟩)
  go_ret
  exact ⟨rfl, rfl⟩
theorem c36n : Calls Try.prog 36 #[.pointer none] w fun e w' => e = .returned (.pointer none) ∧ w = w' := by
  go_enter Try.func36, Try.ntmps36
  go_wp2_with (go_at_call 46; refine (c46n _).mono ?_; rintro e w' ⟨rfl, rfl⟩)
  go_ret
  exact ⟨rfl, rfl⟩
theorem c32n (i : Int) : Calls Try.prog 32 #[.pointer none, .int .i64 i] w fun e w' => e = .returned (.tuple #[.int .u32 0, .int .i64 2]) ∧ w = w' := by
  go_enter Try.func32, Try.ntmps32
  go_wp2_with (go_at_call 51; refine (c51n _ _).mono ?_; rintro e w' ⟨rfl, rfl⟩)
  go_ret2
  exact ⟨rfl, rfl⟩
theorem c35n (i n : Int) : Calls Try.prog 35 #[.pointer none, .int .i64 i, .int .i64 n] w fun e w' => e = .returned (.tuple #[.int .i64 0, .int .i64 0]) ∧ w = w' := by
  go_enter Try.func35, Try.ntmps35
  go_wp2_with (go_at_call 51; refine (c51n _ _).mono ?_; rintro e w' ⟨rfl, rfl⟩)
  go_ret2
  exact ⟨rfl, rfl⟩
theorem c33n (i : Int) (v : Nat) : Calls Try.prog 33 #[.pointer none, .int .i64 i, .int .u32 v] w fun e w' => e = .returned (.int .i64 2) ∧ w = w' := by
  go_enter Try.func33, Try.ntmps33
  go_wp2_with (go_at_call 51; refine (c51n _ _).mono ?_; rintro e w' ⟨rfl, rfl⟩)
  go_ret
  exact ⟨rfl, rfl⟩
theorem c34n (i b : Int) : Calls Try.prog 34 #[.pointer none, .int .i64 i, .int .i64 b] w fun e w' => e = .returned (.int .i64 2) ∧ w = w' := by
  go_enter Try.func34, Try.ntmps34
  go_wp2_with (go_at_call 51; refine (c51n _ _).mono ?_; rintro e w' ⟨rfl, rfl⟩)
  go_ret
  exact ⟨rfl, rfl⟩
variable (p : Nat) (h : w.cell? ⟨p, 0, none⟩ = some (.bool false))
include h
theorem c28z : Calls Try.prog 28 #[.pointer (some ⟨p, 0, none⟩)] w fun e w' => e = .returned (.int .i64 0) ∧ w = w' := by
  go_enter Try.func28, Try.ntmps28
  go_wp2_with (go_at_call 46; refine (c46z _ _ h).mono ?_; rintro e w' ⟨rfl, rfl⟩)
  go_ret
  exact ⟨rfl, rfl⟩
theorem c31z : Calls Try.prog 31 #[.pointer (some ⟨p, 0, none⟩)] w fun e w' => e = .returned (.int .i64 0) ∧ w = w' := by
  go_enter Try.func31, Try.ntmps31
  go_wp2_with (go_at_call 46; refine (c46z _ _ h).mono ?_; rintro e w' ⟨rfl, rfl⟩)
  go_ret
  exact ⟨rfl, rfl⟩
theorem c36z : Calls Try.prog 36 #[.pointer (some ⟨p, 0, none⟩)] w fun e w' => e = .returned (.pointer none) ∧ w = w' := by
  go_enter Try.func36, Try.ntmps36
  go_wp2_with (go_at_call 46; refine (c46z _ _ h).mono ?_; rintro e w' ⟨rfl, rfl⟩)
  go_ret
  exact ⟨rfl, rfl⟩
theorem c32z (i : Int) : Calls Try.prog 32 #[.pointer (some ⟨p, 0, none⟩), .int .i64 i] w fun e w' => e = .returned (.tuple #[.int .u32 0, .int .i64 2]) ∧ w = w' := by
  go_enter Try.func32, Try.ntmps32
  go_wp2_with (go_at_call 51; refine (c51z _ _ _ h).mono ?_; rintro e w' ⟨rfl, rfl⟩)
  go_ret2
  exact ⟨rfl, rfl⟩
theorem c35z (i n : Int) : Calls Try.prog 35 #[.pointer (some ⟨p, 0, none⟩), .int .i64 i, .int .i64 n] w fun e w' => e = .returned (.tuple #[.int .i64 0, .int .i64 0]) ∧ w = w' := by
  go_enter Try.func35, Try.ntmps35
  go_wp2_with (go_at_call 51; refine (c51z _ _ _ h).mono ?_; rintro e w' ⟨rfl, rfl⟩)
  go_ret2
  exact ⟨rfl, rfl⟩
theorem c33z (i : Int) (v : Nat) : Calls Try.prog 33 #[.pointer (some ⟨p, 0, none⟩), .int .i64 i, .int .u32 v] w fun e w' => e = .returned (.int .i64 2) ∧ w = w' := by
  go_enter Try.func33, Try.ntmps33
  go_wp2_with (go_at_call 51; refine (c51z _ _ _ h).mono ?_; rintro e w' ⟨rfl, rfl⟩)
  go_ret
  exact ⟨rfl, rfl⟩
theorem c34z (i b : Int) : Calls Try.prog 34 #[.pointer (some ⟨p, 0, none⟩), .int .i64 i, .int .i64 b] w fun e w' => e = .returned (.int .i64 2) ∧ w = w' := by
  go_enter Try.func34, Try.ntmps34
  go_wp2_with (go_at_call 51; refine (c51z _ _ _ h).mono ?_; rintro e w' ⟨rfl, rfl⟩)
  go_ret
  exact ⟨rfl, rfl⟩
end
theorem t32none (p : Nat) (i : Int) : HSpecV Try.prog 32 #[.pointer (some ⟨p, 0, none⟩), .int .i64 i] (memP p (zeros 0) 0) (.tuple #[.int .u32 0, .int .i64 1]) (memP p (zeros 0) 0) := by
  have h := s32 p 0 (zeros 0) i (by decide)
  have e : Ecc.mread (zeros 0) 0 i = (0, 1, zeros 0, 0) := by
    unfold Ecc.mread
    have : Ecc.out (zeros 0) i = true := by
      simp only [Ecc.out, zeros_len, Bool.or_eq_true, decide_eq_true_eq]; omega
    rw [if_pos this]
  rw [e] at h; exact h
set_option maxRecDepth 100000 in
theorem nones (k v : Nat) (a n : Int) (w : World) :
    Calls Try.prog 13 #[.agg #[.int .u8 k, .int .i64 a, .int .i64 n, .int .u32 v]] w fun e w' => e = .returned (.bool true) ∧ Below w.heap.size w w' := by
  have hs := (Sts.nil w).alloc stab0 (.cells #[.int .u8 k, .int .i64 a, .int .i64 n, .int .u32 v] 49 (0, 0))
  have hs2 := hs.alloc (stab1 (blkP_stable _ _)) (.cells #[.bool false, .slice none 0 0, .int .i64 0] 65 (0, 0))
  rw [size_alloc] at hs2
  have hB : ∀ B ∈ [blkP (w.heap.size + 1) (.cells #[.bool false, .slice none 0 0, .int .i64 0] 65 (0, 0)), blkP w.heap.size (.cells #[.int .u8 k, .int .i64 a, .int .i64 n, .int .u32 v] 49 (0, 0))], Stable B := st2 (blkP_stable _ _) (blkP_stable _ _) stab0
  obtain ⟨F0, b0⟩ := hs2.head
  have z0 := box_cell b0 (j := 0) rfl
  obtain ⟨F1, b1⟩ := hs2.tail.head
  have d1 := box_cell b1 (j := 1) rfl
  have d2 := box_cell b1 (j := 2) rfl
  have d3 := box_cell b1 (j := 3) rfl
  go_enter Try.func13, Try.ntmps13
  go_wp2_with fail
  refine (c32n _ _).mono ?_; rintro e w' ⟨rfl, rfl⟩
  go_wp2_with fail
  refine (c32z _ _ z0 _).mono ?_; rintro e w' ⟨rfl, rfl⟩
  go_wp2_with fail
  refine (c35n _ _ _).mono ?_; rintro e w' ⟨rfl, rfl⟩
  go_wp2_with fail
  refine (c35z _ _ z0 _ _).mono ?_; rintro e w' ⟨rfl, rfl⟩
  go_wp2_with fail
  refine (c33n _ _ _).mono ?_; rintro e w' ⟨rfl, rfl⟩
  go_wp2_with fail
  refine (c33z _ _ z0 _ _).mono ?_; rintro e w' ⟨rfl, rfl⟩
  go_wp2_with fail
  refine (c34n _ _ _).mono ?_; rintro e w' ⟨rfl, rfl⟩
  go_wp2_with fail
  refine (c34z _ _ z0 _ _).mono ?_; rintro e w' ⟨rfl, rfl⟩
  go_wp2_with fail
  refine (Sts.call hB hs2.withEmp (s27 0 0 rfl)).mono ?_; rintro e w1 ⟨p, rfl, h1⟩
  obtain ⟨F3, b3⟩ := h1.tail.tail.head
  have e1 := box_cell b3 (j := 1) rfl
  go_wp2_with fail
  refine (Sts.callV hB h1 (t32none p a)).mono ?_; rintro e w2 ⟨rfl, h2⟩
  obtain ⟨F4, b4⟩ := h2.tail.head
  have z2 := box_cell b4 (j := 0) rfl
  go_wp2_with fail
  refine (c28n _).mono ?_; rintro e w' ⟨rfl, rfl⟩
  go_wp2_with fail
  refine (c28z _ _ z2).mono ?_; rintro e w' ⟨rfl, rfl⟩
  go_wp2_with fail
  refine (c31n _).mono ?_; rintro e w' ⟨rfl, rfl⟩
  go_wp2_with fail
  refine (c31z _ _ z2).mono ?_; rintro e w' ⟨rfl, rfl⟩
  go_wp2_with fail
  refine (c36n _).mono ?_; rintro e w' ⟨rfl, rfl⟩
  go_wp2_with fail
  refine (c36z _ _ z2).mono ?_; rintro e w' ⟨rfl, rfl⟩
  go_wp2_with fail
  refine (Sts.call hB h2 (s36 p 0 (zeros 0))).mono ?_; rintro e w3 ⟨q, rfl, h3⟩
  have hb := hid h3.below
  go_wp2_with fail
  refine (c26 w3).mono ?_; rintro e w4 ⟨rfl, h4⟩
  go_wp2_with fail
  go_ret
  exact ⟨rfl, hb.out.trans (h4.mono hb.out.size)⟩
end Go.Proofs.Ytigefaacknlkoaa
