/- The law MemoryDetects: its walk. -/
import Derived.Test.YtigefaacknlkoaaMemStep
import Derived.Test.YtigefaacknlkoaaMemLives
import Derived.Deep.QuietTactic
import Derived.BigQuiet
import Derived.WalkSmall
set_option linter.unusedVariables false
namespace Ecc
theorem three_write (x v : Nat) : mwrite [0, x, 0] 1 v = (0, [0, enc v, 0]) := by
  unfold mwrite out; simp
theorem three_flip (x : Nat) (b : Nat) (hb : b < 39) : mflip [0, x, 0] 1 b = (0, [0, flp x b, 0]) := by
  unfold mflip out
  rw [if_neg]
  · simp
  · simp; omega
theorem three_bad (x c : Nat) (h : rep x = (x, 2)) : mread [0, x, 0] c 1 = (0, 13, [0, x, 0], c) := by
  unfold mread rpr out; simp [h]
theorem three_scrub (x c : Nat) (h : rep x = (x, 2)) : mscrub [0, x, 0] c 0 3 = (0, 1, [0, x, 0], c) := by
  have r0 : rep 0 = (0, 0) := by decide
  unfold mscrub out rounds
  simp [scr, rpr, h, r0]
theorem three_read (v c : Nat) (h : v < 2 ^ 32) : mread [0, enc v, 0] c 1 = (v, 0, [0, enc v, 0], c) := by
  unfold mread rpr out; simp [rep_enc v h, dat_enc v h]
theorem two_flips (v a b : Nat) (h : v < 2 ^ 32) (ha : a < 39) (hb : b < 39) (hab : a ≠ b) : rep (flp (flp (enc v) a) b) = (flp (flp (enc v) a) b, 2) := by
  rw [flp_in _ a (by omega) (by omega), flp_in _ b (by omega) (by omega)]
  simpa using rep_two v a b h ha hb hab
end Ecc
namespace Go.Proofs.Ytigefaacknlkoaa
open Go.RowKit Go.Proofs.Num
section
variable (p x c v : Nat)
theorem t33 (hv : v < 4294967296) : HSpecV Try.prog 33 #[.pointer (some ⟨p, 0, none⟩), .int .i64 1, .int .u32 v] (memP p [0, x, 0] c) (.int .i64 0) (memP p [0, Ecc.enc v, 0] c) := by
  have h := s33 p c [0, x, 0] 1 v hv; rw [Ecc.three_write] at h; exact h
theorem t34 (b : Nat) (hb : b < 39) : HSpecV Try.prog 34 #[.pointer (some ⟨p, 0, none⟩), .int .i64 1, .int .i64 b] (memP p [0, x, 0] c) (.int .i64 0) (memP p [0, Ecc.flp x b, 0] c) := by
  have h := s34 p c [0, x, 0] 1 b; rw [Ecc.three_flip x b hb] at h; exact h
theorem t32b (hx : Ecc.rep x = (x, 2)) (hc : c < 100000000000) : HSpecV Try.prog 32 #[.pointer (some ⟨p, 0, none⟩), .int .i64 1] (memP p [0, x, 0] c) (.tuple #[.int .u32 0, .int .i64 13]) (memP p [0, x, 0] c) := by
  have h := s32 p c [0, x, 0] 1 hc; rw [Ecc.three_bad x c hx] at h; exact h
theorem t35b (hx : Ecc.rep x = (x, 2)) (hc : c < 100000000000) : HSpecV Try.prog 35 #[.pointer (some ⟨p, 0, none⟩), .int .i64 0, .int .i64 3] (memP p [0, x, 0] c) (.tuple #[.int .i64 0, .int .i64 1]) (memP p [0, x, 0] c) := by
  have h := s35 p c [0, x, 0] 0 3 hc; rw [Ecc.three_scrub x c hx] at h; exact h
theorem t32 (hv : v < 4294967296) (hc : c < 100000000000) : HSpecV Try.prog 32 #[.pointer (some ⟨p, 0, none⟩), .int .i64 1] (memP p [0, Ecc.enc v, 0] c) (.tuple #[.int .u32 v, .int .i64 0]) (memP p [0, Ecc.enc v, 0] c) := by
  have h := s32 p c [0, Ecc.enc v, 0] 1 hc; rw [Ecc.three_read v c hv] at h; exact h
end
set_option maxRecDepth 100000 in
theorem detects (v u a b : Nat) (hv : v < 4294967296) (hu : u < 4294967296) (w : World) :
    Calls Try.prog 11 #[.int .u32 v, .int .u32 u, .agg #[.int .u8 a, .int .u8 b]] w fun e w' => e = .returned (.bool true) ∧ Below w.heap.size w w' := by
  have ea : (a : Int).tmod 39 = ((a % 39 : Nat) : Int) := by rw [Int.tmod_eq_emod_of_nonneg (by omega)]; simp
  have eb : (b : Int).tmod 39 = ((b % 39 : Nat) : Int) := by rw [Int.tmod_eq_emod_of_nonneg (by omega)]; simp
  have ea2 : (a : Int) % 39 = ((a % 39 : Nat) : Int) := by simp
  have eb2 : (b : Int) % 39 = ((b % 39 : Nat) : Int) := by simp
  have h1 : a % 39 < 39 := Nat.mod_lt _ (by decide)
  have h2 : b % 39 < 39 := Nat.mod_lt _ (by decide)
  have hs := (Sts.nil w).alloc stab0 (.cells #[.int .u8 a, .int .u8 b] 61 (0, 0))
  obtain ⟨F0, b0⟩ := hs.head
  have d0 : (w.alloc (.cells #[.int .u8 a, .int .u8 b] 61)).drew.cell? ⟨w.heap.size, 0, none⟩ = some (.int .u8 a) := box_cell b0 rfl
  have d1 : (w.alloc (.cells #[.int .u8 a, .int .u8 b] 61)).drew.cell? ⟨w.heap.size, 1, none⟩ = some (.int .u8 b) := box_cell b0 rfl
  have hB : ∀ B ∈ [blkP w.heap.size (.cells #[.int .u8 a, .int .u8 b] 61 (0, 0))], Stable B := stab1 (blkP_stable _ _)
  have K27 := hid fun w' (h : Sts w [blkP w.heap.size (.cells #[.int .u8 a, .int .u8 b] 61 (0, 0))] w') => Sts.call hB h.withEmp (s27 3 3 rfl)
  have hsd := hid (fun n => hs.quiet hB (below_drewN (Below.refl _ _) n))
  generalize blkP w.heap.size (.cells #[.int .u8 a, .int .u8 b] 61 (0, 0)) = BX at *
  clear hs b0
  generalize a % 39 = x at *
  generalize b % 39 = y at *
  by_cases hab : x = y
  · have hbeq : ((x : Int) == (y : Int)) = true := by simp; omega
    go_enter Try.func11, Try.ntmps11
    go_wp2_with fail
    go_quiet (fail)
    go_wp2_with fail
    refine (K27.out _ (hsd.out _)).mono ?_; rintro e w1 ⟨p, rfl, h1⟩
    have hb := hid h1.below
    go_wp2_with fail
    refine (c26 w1).mono ?_; rintro e w2 ⟨rfl, h2⟩
    go_wp2_with fail
    go_ret
    exact ⟨rfl, hb.out.trans (h2.mono hb.out.size)⟩
  · have hbeq : ((x : Int) == (y : Int)) = false := by simp; omega
    have hX := Ecc.two_flips v x y hv h1 h2 hab
    have hz : zeros 3 = [0, 0, 0] := rfl
    rw [hz] at K27
    have K33 := hid fun p => t33 p 0 0 v hv
    have K34 := hid fun p => t34 p (Ecc.enc v) 0 x h1
    have K34' := hid fun p => t34 p (Ecc.flp (Ecc.enc v) x) 0 y h2
    generalize Ecc.flp (Ecc.flp (Ecc.enc v) x) y = X at *
    generalize Ecc.flp (Ecc.enc v) x = Y at *
    have K32 := hid fun p => t32b p X 0 hX (by decide)
    have K35 := hid fun p => t35b p X 0 hX (by decide)
    have K33' := hid fun p => t33 p X 0 u hu
    have K32' := hid fun p => t32 p 0 u hu (by decide)
    generalize Ecc.enc u = U at *
    generalize Ecc.enc v = V at *
    clear hX hz h1 h2
    go_enter Try.func11, Try.ntmps11
    go_wp2_with fail
    go_quiet (fail)
    go_wp2_with fail
    refine (K27.out _ (hsd.out _)).mono ?_; rintro e w1 ⟨p, rfl, h1⟩
    go_wp2_with fail
    refine (Sts.callV hB h1 (K33.out p)).mono ?_; rintro e w2 ⟨rfl, h2⟩
    go_wp2_with fail
    refine (Sts.callV hB h2 (K34.out p)).mono ?_; rintro e w3 ⟨rfl, h3⟩
    go_wp2_with fail
    refine (Sts.callV hB h3 (K34'.out p)).mono ?_; rintro e w4 ⟨rfl, h4⟩
    go_wp2_with fail
    refine (Sts.callV hB h4 (K32.out p)).mono ?_; rintro e w5 ⟨rfl, h5⟩
    go_wp2_with fail
    refine (Sts.callV hB h5 (K35.out p)).mono ?_; rintro e w6 ⟨rfl, h6⟩
    go_wp2_with fail
    refine (Sts.callV hB h6 (K32.out p)).mono ?_; rintro e w7 ⟨rfl, h7⟩
    go_wp2_with fail
    refine (Sts.callV hB h7 (K33'.out p)).mono ?_; rintro e w8 ⟨rfl, h8⟩
    go_wp2_with fail
    refine (Sts.callV hB h8 (K32'.out p)).mono ?_; rintro e w9 ⟨rfl, h9⟩
    go_wp2_with fail
    refine (Sts.callV hB h9 (s31 p 0 [0, U, 0])).mono ?_; rintro e w10 ⟨rfl, h10⟩
    have hb := hid h10.below
    go_wp2_with fail
    refine (c26 w10).mono ?_; rintro e w11 ⟨rfl, h11⟩
    go_wp2_with fail
    go_ret
    exact ⟨rfl, hb.out.trans (h11.mono hb.out.size)⟩
end Go.Proofs.Ytigefaacknlkoaa
