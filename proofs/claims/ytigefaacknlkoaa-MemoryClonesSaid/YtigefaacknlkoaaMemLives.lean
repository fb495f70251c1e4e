/- The examples of the chapter on the error-correcting memory. -/
import Derived.Test.YtigefaacknlkoaaMemSpec
set_option linter.unusedVariables false
namespace Go.Proofs.Num
open Go.RowKit
theorem Sts.withEmp {W w : World} {l : List HProp} (h : Sts W l w) : Sts W (emp :: l) w := by
  obtain ⟨F, a, b, c⟩ := h
  exact ⟨F, ⟨fun _ => False, F, fun _ h => h, a, fun _ h => h.elim, fun k => by simp⟩, b, c⟩
theorem stab0 : ∀ B ∈ ([] : List HProp), Stable B := by intro B hB; simp at hB
theorem stab1 {A : HProp} (hA : Stable A) : ∀ B ∈ [A], Stable B := by intro B hB; simp at hB; subst hB; exact hA
theorem Sts.nil_below {W w : World} (h : Below W.heap.size W w) : Sts W [] w := ⟨fun _ => False, fun _ h => h, h, fun _ h => h.elim⟩
end Go.Proofs.Num
namespace Go.Proofs.Ytigefaacknlkoaa
open Go.RowKit Go.Proofs.Num
def L1 : List Nat := [0, 105, 0, 0]
theorem l1 (p : Nat) : HSpecV Try.prog 33 #[.pointer (some ⟨p, 0, none⟩), .int .i64 1, .int .u32 7] (memP p (zeros 4) 0) (.int .i64 0) (memP p L1 0) := by
  have h := s33 p 0 (zeros 4) 1 7 (by decide); rw [show Ecc.mwrite (zeros 4) 1 7 = (0, L1) by decide +kernel] at h; exact h
def L2 : List Nat := [0, 1048681, 0, 0]
theorem l2 (p : Nat) : HSpecV Try.prog 34 #[.pointer (some ⟨p, 0, none⟩), .int .i64 1, .int .i64 20] (memP p L1 0) (.int .i64 0) (memP p L2 0) := by
  have h := s34 p 0 L1 1 20; rw [show Ecc.mflip L1 1 20 = (0, L2) by decide +kernel] at h; exact h
def L3 : List Nat := [0, 105, 0, 0]
theorem l3 (p : Nat) : HSpecV Try.prog 32 #[.pointer (some ⟨p, 0, none⟩), .int .i64 1] (memP p L2 0) (.tuple #[.int .u32 7, .int .i64 0]) (memP p L3 1) := by
  have h := s32 p 0 L2 1 (by decide); rw [show Ecc.mread L2 0 1 = (7, 0, L3, 1) by decide +kernel] at h; exact h
def L4 : List Nat := [0, 105, 0, 0]
theorem l4 (p : Nat) : HSpecV Try.prog 32 #[.pointer (some ⟨p, 0, none⟩), .int .i64 1] (memP p L3 1) (.tuple #[.int .u32 7, .int .i64 0]) (memP p L4 1) := by
  have h := s32 p 1 L3 1 (by decide); rw [show Ecc.mread L3 1 1 = (7, 0, L4, 1) by decide +kernel] at h; exact h
def L5 : List Nat := [0, 105, 1, 0]
theorem l5 (p : Nat) : HSpecV Try.prog 34 #[.pointer (some ⟨p, 0, none⟩), .int .i64 2, .int .i64 0] (memP p L4 1) (.int .i64 0) (memP p L5 1) := by
  have h := s34 p 1 L4 2 0; rw [show Ecc.mflip L4 2 0 = (0, L5) by decide +kernel] at h; exact h
def L6 : List Nat := [0, 105, 3, 0]
theorem l6 (p : Nat) : HSpecV Try.prog 34 #[.pointer (some ⟨p, 0, none⟩), .int .i64 2, .int .i64 1] (memP p L5 1) (.int .i64 0) (memP p L6 1) := by
  have h := s34 p 1 L5 2 1; rw [show Ecc.mflip L5 2 1 = (0, L6) by decide +kernel] at h; exact h
def L7 : List Nat := [0, 105, 3, 0]
theorem l7 (p : Nat) : HSpecV Try.prog 32 #[.pointer (some ⟨p, 0, none⟩), .int .i64 2] (memP p L6 1) (.tuple #[.int .u32 0, .int .i64 13]) (memP p L7 1) := by
  have h := s32 p 1 L6 2 (by decide); rw [show Ecc.mread L6 1 2 = (0, 13, L7, 1) by decide +kernel] at h; exact h
def L8 : List Nat := [0, 105, 3, 32]
theorem l8 (p : Nat) : HSpecV Try.prog 34 #[.pointer (some ⟨p, 0, none⟩), .int .i64 3, .int .i64 5] (memP p L7 1) (.int .i64 0) (memP p L8 1) := by
  have h := s34 p 1 L7 3 5; rw [show Ecc.mflip L7 3 5 = (0, L8) by decide +kernel] at h; exact h
def L9 : List Nat := [32, 105, 3, 32]
theorem l9 (p : Nat) : HSpecV Try.prog 34 #[.pointer (some ⟨p, 0, none⟩), .int .i64 0, .int .i64 5] (memP p L8 1) (.int .i64 0) (memP p L9 1) := by
  have h := s34 p 1 L8 0 5; rw [show Ecc.mflip L8 0 5 = (0, L9) by decide +kernel] at h; exact h
def L10 : List Nat := [0, 105, 3, 0]
theorem l10 (p : Nat) : HSpecV Try.prog 35 #[.pointer (some ⟨p, 0, none⟩), .int .i64 3, .int .i64 2] (memP p L9 1) (.tuple #[.int .i64 2, .int .i64 0]) (memP p L10 3) := by
  have h := s35 p 1 L9 3 2 (by decide); rw [show Ecc.mscrub L9 1 3 2 = (2, 0, L10, 3) by decide +kernel] at h; exact h
def L11 : List Nat := [0, 105, 3, 0]
theorem l11 (p : Nat) : HSpecV Try.prog 32 #[.pointer (some ⟨p, 0, none⟩), .int .i64 4] (memP p L10 3) (.tuple #[.int .u32 0, .int .i64 1]) (memP p L11 3) := by
  have h := s32 p 3 L10 4 (by decide); rw [show Ecc.mread L10 3 4 = (0, 1, L11, 3) by decide +kernel] at h; exact h
def L12 : List Nat := [0, 105, 3, 0]
theorem l12 (p : Nat) : HSpecV Try.prog 34 #[.pointer (some ⟨p, 0, none⟩), .int .i64 0, .int .i64 39] (memP p L11 3) (.int .i64 1) (memP p L12 3) := by
  have h := s34 p 3 L11 0 39; rw [show Ecc.mflip L11 0 39 = (1, L12) by decide +kernel] at h; exact h
theorem L11_len : ((L11.length : Nat) : Int) = 4 := by decide +kernel
set_option maxRecDepth 100000 in
theorem c26 (w : World) : Calls Try.prog 26 #[] w fun e w' => e = .returned (.bool true) ∧ Below w.heap.size w w' := by
  have h0 := Sts.withEmp (Sts.nil w)
  have hlen := L11_len
  go_enter Try.func26, Try.ntmps26
  go_wp2_with fail
  refine (Sts.call stab0 h0 (s27 4 4 rfl)).mono ?_; rintro e w1 ⟨p, rfl, h1⟩; clear h0
  go_wp2_with fail
  refine (Sts.callV stab0 h1 (l1 p)).mono ?_; rintro e w2 ⟨rfl, h2⟩; clear h1
  go_wp2_with fail
  refine (Sts.callV stab0 h2 (l2 p)).mono ?_; rintro e w3 ⟨rfl, h3⟩; clear h2
  go_wp2_with fail
  refine (Sts.callV stab0 h3 (l3 p)).mono ?_; rintro e w4 ⟨rfl, h4⟩; clear h3
  go_wp2_with fail
  refine (Sts.callV stab0 h4 (l4 p)).mono ?_; rintro e w5 ⟨rfl, h5⟩; clear h4
  go_wp2_with fail
  refine (Sts.callV stab0 h5 (s31 p 1 L4)).mono ?_; rintro e w5 ⟨rfl, h5⟩
  go_wp2_with fail
  refine (Sts.callV stab0 h5 (l5 p)).mono ?_; rintro e w6 ⟨rfl, h6⟩; clear h5
  go_wp2_with fail
  refine (Sts.callV stab0 h6 (l6 p)).mono ?_; rintro e w7 ⟨rfl, h7⟩; clear h6
  go_wp2_with fail
  refine (Sts.callV stab0 h7 (l7 p)).mono ?_; rintro e w8 ⟨rfl, h8⟩; clear h7
  go_wp2_with fail
  refine (Sts.callV stab0 h8 (l8 p)).mono ?_; rintro e w9 ⟨rfl, h9⟩; clear h8
  go_wp2_with fail
  refine (Sts.callV stab0 h9 (l9 p)).mono ?_; rintro e w10 ⟨rfl, h10⟩; clear h9
  go_wp2_with fail
  refine (Sts.callV stab0 h10 (l10 p)).mono ?_; rintro e w11 ⟨rfl, h11⟩; clear h10
  go_wp2_with fail
  refine (Sts.callV stab0 h11 (l11 p)).mono ?_; rintro e w12 ⟨rfl, h12⟩; clear h11
  go_wp2_with fail
  refine (Sts.callV stab0 h12 (s28 p 3 L11)).mono ?_; rintro e w12 ⟨rfl, h12⟩; rw [hlen]
  go_wp2_with fail
  refine (Sts.callV stab0 h12 (l12 p)).mono ?_; rintro e w13 ⟨rfl, h13⟩; clear h12
  go_wp2_with fail
  refine (Sts.call (stab1 (memP_stable _ _ _)) (Sts.withEmp h13) (s27 (-1) 0 rfl)).mono ?_; rintro e w14 ⟨q, rfl, h14⟩
  go_wp2_with fail
  refine (Sts.callV (stab1 (memP_stable _ _ _)) h14 (s28 q 0 (zeros 0))).mono ?_; rintro e w15 ⟨rfl, h15⟩
  go_wp2_with fail
  go_ret
  exact ⟨rfl, h15.below⟩
end Go.Proofs.Ytigefaacknlkoaa
