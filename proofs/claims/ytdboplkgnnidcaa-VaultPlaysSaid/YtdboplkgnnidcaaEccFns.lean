/- The contracts of the program's functions (package ecc), above masks. -/
import Derived.Test.YtdboplkgnnidcaaEccMasks
set_option linter.unusedVariables false
namespace Ecc
/-- The syndrome, bit by bit, as the program gathers it. -/
def sg (w : Nat) : Nat → Nat
  | 0 => 0
  | k + 1 => sg w k ^^^ (if (ones 64 (w &&& msk k 39) % 2) = 1 then 2 ^ k else 0)
theorem sg_lt (w k : Nat) : sg w k < 2 ^ k := by
  induction k with
  | zero => simp [sg]
  | succ k ih =>
    have h : sg w k < 2 ^ (k + 1) := by rw [Nat.pow_succ]; omega
    refine xor_lt h ?_
    split
    · exact Nat.pow_lt_pow_right (by decide) (by omega)
    · exact Nat.two_pow_pos _
theorem odd_lin (m : Nat) : ∀ a b, ones 64 ((a ^^^ b) &&& m) % 2 = ones 64 (a &&& m) % 2 ^^^ ones 64 (b &&& m) % 2 := by
  intro a b
  simp only [← xf1_ones]
  rw [Nat.and_xor_distrib_right]
  exact xf_lin _ _ _ _
theorem sel01 (x y v : Nat) (hx : x < 2) (hy : y < 2) : (if x ^^^ y = 1 then v else 0) = (if x = 1 then v else 0) ^^^ (if y = 1 then v else 0) := by
  have : ∀ x, x < 2 → ∀ y, y < 2 → ((x ^^^ y = 1) ↔ ¬ (x = 1 ↔ y = 1)) := by decide
  have h := this x hx y hy
  by_cases h1 : x = 1 <;> by_cases h2 : y = 1 <;> simp [h1, h2] at h ⊢ <;> simp_all
theorem sg_lin (k : Nat) : Lin (fun w => sg w k) := by
  induction k with
  | zero => exact Lin.zero
  | succ k ih =>
    intro a b
    simp only [sg]
    have ih' : sg (a ^^^ b) k = sg a k ^^^ sg b k := ih a b
    rw [ih', odd_lin, sel01 _ _ _ (Nat.mod_lt _ (by decide)) (Nat.mod_lt _ (by decide))]
    exact xor4 _ _ _ _
theorem sg_syn (w : Nat) (h : w < 2 ^ 64) : sg w 6 = syn w :=
  lin_ext (sg_lin 6) syn_lin 64 (by decide +kernel) w h
theorem sg_or (w k : Nat) : sg w k ||| ones 64 (w &&& msk k 39) % 2 * 2 ^ k = sg w (k + 1) := by
  have hf : (sg w k).testBit k = false := Nat.testBit_lt_two_pow (sg_lt w k)
  simp only [sg]
  rcases Nat.mod_two_eq_zero_or_one (ones 64 (w &&& msk k 39)) with h | h <;> rw [h]
  · simp
  · simpa using or_pow _ _ hf
end Ecc
namespace Go.Proofs.Ytdboplkgnnidcaa
open Go.RowKit Go.Proofs.Num
theorem ix0 (w : World) : (Instr.index 111 (.agg #[.int .u64 (Ecc.msk 0 39 : Nat), .int .u64 (Ecc.msk 1 39 : Nat), .int .u64 (Ecc.msk 2 39 : Nat), .int .u64 (Ecc.msk 3 39 : Nat), .int .u64 (Ecc.msk 4 39 : Nat), .int .u64 (Ecc.msk 5 39 : Nat)]) (.int .i64 0)).run Try.prog w = .ok (.int .u64 (Ecc.msk 0 39 : Nat)) w := by kernel_rfl
theorem ix1 (w : World) : (Instr.index 111 (.agg #[.int .u64 (Ecc.msk 0 39 : Nat), .int .u64 (Ecc.msk 1 39 : Nat), .int .u64 (Ecc.msk 2 39 : Nat), .int .u64 (Ecc.msk 3 39 : Nat), .int .u64 (Ecc.msk 4 39 : Nat), .int .u64 (Ecc.msk 5 39 : Nat)]) (.int .i64 1)).run Try.prog w = .ok (.int .u64 (Ecc.msk 1 39 : Nat)) w := by kernel_rfl
theorem ix2 (w : World) : (Instr.index 111 (.agg #[.int .u64 (Ecc.msk 0 39 : Nat), .int .u64 (Ecc.msk 1 39 : Nat), .int .u64 (Ecc.msk 2 39 : Nat), .int .u64 (Ecc.msk 3 39 : Nat), .int .u64 (Ecc.msk 4 39 : Nat), .int .u64 (Ecc.msk 5 39 : Nat)]) (.int .i64 2)).run Try.prog w = .ok (.int .u64 (Ecc.msk 2 39 : Nat)) w := by kernel_rfl
theorem ix3 (w : World) : (Instr.index 111 (.agg #[.int .u64 (Ecc.msk 0 39 : Nat), .int .u64 (Ecc.msk 1 39 : Nat), .int .u64 (Ecc.msk 2 39 : Nat), .int .u64 (Ecc.msk 3 39 : Nat), .int .u64 (Ecc.msk 4 39 : Nat), .int .u64 (Ecc.msk 5 39 : Nat)]) (.int .i64 3)).run Try.prog w = .ok (.int .u64 (Ecc.msk 3 39 : Nat)) w := by kernel_rfl
theorem ix4 (w : World) : (Instr.index 111 (.agg #[.int .u64 (Ecc.msk 0 39 : Nat), .int .u64 (Ecc.msk 1 39 : Nat), .int .u64 (Ecc.msk 2 39 : Nat), .int .u64 (Ecc.msk 3 39 : Nat), .int .u64 (Ecc.msk 4 39 : Nat), .int .u64 (Ecc.msk 5 39 : Nat)]) (.int .i64 4)).run Try.prog w = .ok (.int .u64 (Ecc.msk 4 39 : Nat)) w := by kernel_rfl
theorem ix5 (w : World) : (Instr.index 111 (.agg #[.int .u64 (Ecc.msk 0 39 : Nat), .int .u64 (Ecc.msk 1 39 : Nat), .int .u64 (Ecc.msk 2 39 : Nat), .int .u64 (Ecc.msk 3 39 : Nat), .int .u64 (Ecc.msk 4 39 : Nat), .int .u64 (Ecc.msk 5 39 : Nat)]) (.int .i64 5)).run Try.prog w = .ok (.int .u64 (Ecc.msk 5 39 : Nat)) w := by kernel_rfl
theorem syn_bit (x k s : Nat) (hx : x < 18446744073709551616) (m : Nat) (hm : m = Ecc.msk k 39) (hk : k < 6) (hs : s = Ecc.sg x k) :
    bits .or .i64 (s : Int) (bits .and .i64 (Ecc.ones 64 (x &&& m) : Nat) 1 * 2 ^ k) = (Ecc.sg x (k + 1) : Nat) := by
  subst hm; subst hs
  rw [and1 _ (Ecc.ones_le 64 _)]
  have h1 : Ecc.ones 64 (x &&& Ecc.msk k 39) % 2 * 2 ^ k < 64 := by
    have h2 : 2 ^ k ≤ 32 := pow32 k hk
    have h3 : Ecc.ones 64 (x &&& Ecc.msk k 39) % 2 < 2 := Nat.mod_lt _ (by decide)
    have : Ecc.ones 64 (x &&& Ecc.msk k 39) % 2 * 2 ^ k ≤ 1 * 32 := Nat.mul_le_mul (by omega) h2
    omega
  have h4 : Ecc.sg x k < 64 := by
    have h2 : 2 ^ k ≤ 32 := pow32 k hk
    have := Ecc.sg_lt x k
    omega
  rw [show ((Ecc.ones 64 (x &&& Ecc.msk k 39) % 2 : Nat) : Int) * 2 ^ k = ((Ecc.ones 64 (x &&& Ecc.msk k 39) % 2 * 2 ^ k : Nat) : Int) by simp, i64_or _ _ (by omega) (by omega), Ecc.sg_or]
theorem syn_bitw (x k : Nat) (c : Int) (hx : x < 18446744073709551616) (hk : k < 6) (hc : c = 2 ^ k) :
    bits .or .i64 ((Ecc.sg x k : Nat) : Int) (wrap64 (bits .and .i64 (Ecc.ones 64 (x &&& Ecc.msk k 39) : Nat) 1 * c)) = (Ecc.sg x (k + 1) : Nat) := by
  subst hc
  have h := syn_bit x k _ hx _ rfl hk rfl
  have e := and1 _ (Ecc.ones_le 64 (x &&& Ecc.msk k 39))
  rw [e] at h ⊢
  have h2 : 2 ^ k ≤ 32 := pow32 k hk
  have h3 : Ecc.ones 64 (x &&& Ecc.msk k 39) % 2 * 2 ^ k ≤ 1 * 32 := Nat.mul_le_mul (by have := Nat.mod_lt (Ecc.ones 64 (x &&& Ecc.msk k 39)) (y := 2) (by decide); omega) h2
  have e2 : ((Ecc.ones 64 (x &&& Ecc.msk k 39) % 2 : Nat) : Int) * 2 ^ k = ((Ecc.ones 64 (x &&& Ecc.msk k 39) % 2 * 2 ^ k : Nat) : Int) := by simp
  rw [e2] at h ⊢
  rw [w64n _ (by omega)]; exact h
set_option maxRecDepth 100000 in
theorem c18 (x : Nat) (w : World) (hx : x < 18446744073709551616) :
    Calls Try.prog 60 #[.int .u64 x] w fun e w' => e = .returned (.int .i64 (Ecc.syn x : Nat)) ∧ Below w.heap.size w w' := by
  have hS := hid (Ecc.sg_syn x hx)
  have i0 := ix0
  have i1 := ix1
  have i2 := ix2
  have i3 := ix3
  have i4 := ix4
  have i5 := ix5
  have l0 := Ecc.msk_lt 0 39
  have l1 := Ecc.msk_lt 1 39
  have l2 := Ecc.msk_lt 2 39
  have l3 := Ecc.msk_lt 3 39
  have l4 := Ecc.msk_lt 4 39
  have l5 := Ecc.msk_lt 5 39
  have a0 := and64 x (Ecc.msk 0 39) hx (by omega)
  have a1 := and64 x (Ecc.msk 1 39) hx (by omega)
  have a2 := and64 x (Ecc.msk 2 39) hx (by omega)
  have a3 := and64 x (Ecc.msk 3 39) hx (by omega)
  have a4 := and64 x (Ecc.msk 4 39) hx (by omega)
  have a5 := and64 x (Ecc.msk 5 39) hx (by omega)
  have d : ∀ k, x &&& Ecc.msk k 39 < 18446744073709551616 := fun k => Nat.lt_of_le_of_lt Nat.and_le_left hx
  have d := hid d
  clear l0 l1 l2 l3 l4 l5
  go_enter Try.func60, Try.ntmps60
  go_wp2_with (go_at_call 74; refine (c42 _).mono ?_; rintro e w' ⟨rfl, hb⟩)
  go_loop [3, 7] (fun s i => ∃ k : Nat, k ≤ 6 ∧ i = .int .i64 k ∧ s = .int .i64 (Ecc.sg x k : Nat)) (fun _ i => 6 - (intOf i).toNat)
  case atStart => exact ⟨0, by omega, rfl, rfl⟩
  case round =>
    obtain ⟨k, hk, rfl, rfl⟩ := hrel
    by_cases hkl : k < 6
    · rcases (show k = 0 ∨ k = 1 ∨ k = 2 ∨ k = 3 ∨ k = 4 ∨ k = 5 by omega) with rfl | rfl | rfl | rfl | rfl | rfl
      all_goals
        go_wp2_with (go_at_call 75; refine (c43 _ _ (d.out _)).mono ?_; rintro e w' ⟨rfl, rfl⟩)
      all_goals go_round
      case rel => exact ⟨1, by omega, rfl, val_int (by have := syn_bitw x 0 1 hx (by omega) rfl; simpa using this)⟩
      case measure => simp [intOf]
      case rel => exact ⟨2, by omega, rfl, val_int (syn_bitw x 1 2 hx (by omega) rfl)⟩
      case measure => simp [intOf]
      case rel => exact ⟨3, by omega, rfl, val_int (syn_bitw x 2 4 hx (by omega) rfl)⟩
      case measure => simp [intOf]
      case rel => exact ⟨4, by omega, rfl, val_int (syn_bitw x 3 8 hx (by omega) rfl)⟩
      case measure => simp [intOf]
      case rel => exact ⟨5, by omega, rfl, val_int (syn_bitw x 4 16 hx (by omega) rfl)⟩
      case measure => simp [intOf]
      case rel => exact ⟨6, by omega, rfl, val_int (syn_bitw x 5 32 hx (by omega) rfl)⟩
      case measure => simp [intOf]
    · obtain rfl : k = 6 := by omega
      go_wp2
      go_ret
      exact ⟨ret_int (by rw [hS.out]), hb⟩
theorem c23 (x : Nat) (b : Int) (w : World) (hx : x < 18446744073709551616) :
    Calls Try.prog 45 #[.int .u64 x, .int .i64 b] w fun e w' => e = .returned (.int .u64 (Ecc.flp x b : Nat)) ∧ w = w' := by
  by_cases h : b < 0 ∨ 38 < b
  · have e := Ecc.flp_out x b h
    rw [e]; clear e
    go_enter Try.func45, Try.ntmps45
    go_wp2
    all_goals first | (go_ret; exact ⟨rfl, rfl⟩) | (exfalso; omega)
  · have h1 : ¬ b < 0 := by omega
    have h2 : ¬ 39 ≤ b := by omega
    have h3 : b ≤ 38 := by omega
    clear h
    go_enter Try.func45, Try.ntmps45
    go_wp2
    go_ret
    exact ⟨ret_int (flip_val x b hx h1 h3), rfl⟩
theorem c37n (p : Nat) (w : World) (h3 : 3 ≤ p) (h39 : p < 39) (h : Ecc.chkB p = false) :
    Calls Try.prog 59 #[.int .i64 p] w fun e w' => e = .returned (.bool false) ∧ w = w' := by
  have key : ∀ p, p < 39 → 3 ≤ p → Ecc.chkB p = false → (p &&& (p - 1)) ≠ 0 := by decide +kernel
  have hk := key p h39 h3 h
  have e : bits .and .i64 (p : Int) ((p : Int) - 1) = ((p &&& (p - 1) : Nat) : Int) := by
    rw [show ((p : Int) - 1) = ((p - 1 : Nat) : Int) by omega]; exact i64_and _ _ (by omega) (by omega)
  have e2 : (bits .and .i64 (p : Int) ((p : Int) - 1) == 0) = false := by rw [e]; simpa using hk
  clear e hk key h
  go_enter Try.func59, Try.ntmps59
  go_wp2
  go_ret
  exact ⟨rfl, rfl⟩
/-- One bit of a word, as the program cuts it out. -/
theorem cut1 (x k : Nat) (hx : x < 18446744073709551616) : bits .and .u64 ((x : Int) / 2 ^ k) 1 = ((x / 2 ^ k % 2 : Nat) : Int) := by
  have e : (x : Int) / 2 ^ k = ((x / 2 ^ k : Nat) : Int) := by simp
  have h : x / 2 ^ k < 18446744073709551616 := Nat.lt_of_le_of_lt (Nat.div_le_self _ _) hx
  rw [e, show (1 : Int) = ((1 : Nat) : Int) from rfl, and64 _ _ h (by decide), show (1 : Nat) = 2 ^ 1 - 1 from rfl, Nat.and_two_pow_sub_one_eq_mod]
theorem dat_round2 (x k : Nat) (h3 : 3 ≤ k) (h : k < 39) (hb : Ecc.chkB k = false) :
    bits .or .u32 ((Ecc.dt x k : Nat) : Int) ((x : Int) / 2 ^ k % 2 * 2 ^ Ecc.cnt k % 4294967296) = (Ecc.dt x (k + 1) : Nat) := by
  have hc := Ecc.cnt_32 k h hb h3
  have h1 : x / 2 ^ k % 2 * 2 ^ Ecc.cnt k < 2 ^ 32 := bit_shl_lt _ _ _ _ hc
  have h2 : Ecc.dt x k < 2 ^ 32 := Nat.lt_of_lt_of_le (Ecc.dt_lt x k) (Nat.pow_le_pow_right (by decide) (by omega))
  rw [bit_cast]
  have e : (((x / 2 ^ k % 2 : Nat) : Int)) * 2 ^ Ecc.cnt k = ((x / 2 ^ k % 2 * 2 ^ Ecc.cnt k : Nat) : Int) := by simp
  rw [e, show ((x / 2 ^ k % 2 * 2 ^ Ecc.cnt k : Nat) : Int) % 4294967296 = ((x / 2 ^ k % 2 * 2 ^ Ecc.cnt k : Nat) : Int) by omega, u32_or_nat _ _ (by omega) (by omega), Ecc.dt_or x k h3 hb]
theorem chk_round2 (x s j : Nat) (hj : j < 6) (hs64 : s < 64) (hs : Ecc.syn (Ecc.sp x 39) = s) :
    bits .or .u64 ((Ecc.wd x j : Nat) : Int) (IntKind.u64.wrap (IntKind.u64.wrap (bits .and .i64 ((s : Int) / 2 ^ j) 1) * 2 ^ min (IntKind.u64.wrap (2 ^ j)).toNat 64)) = (Ecc.wd x (j + 1) : Nat) := by
  have hp : (2 : Nat) ^ j ≤ 32 := pow32 j hj
  have h1 : Ecc.wd x j < 549755813888 := Ecc.wd_lt x j (by omega)
  have e : (s : Int) / 2 ^ j = ((s / 2 ^ j : Nat) : Int) := by simp
  have hl : s / 2 ^ j ≤ 64 := by have := Nat.div_le_self s (2 ^ j); omega
  have h3 : s / 2 ^ j % 2 * 2 ^ 2 ^ j < 2 ^ 39 := bit_shl_lt _ _ _ _ (by omega)
  rw [e, and1 _ hl, u64w _ (by have := Nat.mod_lt (s / 2 ^ j) (y := 2) (by decide); omega), u64pow j (by omega), Int.toNat_natCast, show min (2 ^ j) 64 = 2 ^ j by omega, u64shl _ _ (by omega), u64_or_nat _ _ (by omega) (by omega)]
  subst hs
  rw [Ecc.wd_or x j hj]
theorem enc_end2 (x : Nat) : bits .or .u64 ((Ecc.wd x 6 : Nat) : Int) (IntKind.u64.wrap (Ecc.par (Ecc.wd x 6) : Nat)) = (Ecc.enc x : Nat) := by
  have h1 : Ecc.wd x 6 < 549755813888 := Ecc.wd_lt x 6 (by omega)
  have h2 := Ecc.par_lt (Ecc.wd x 6)
  rw [u64w _ (by omega), u64_or_nat _ _ (by omega) (by omega), Ecc.enc_or]
set_option maxRecDepth 100000 in
theorem c39 (x : Nat) (w : World) (hx : x < 18446744073709551616) :
    Calls Try.prog 72 #[.int .u64 x] w fun e w' => e = .returned (.int .u32 (Ecc.dat x : Nat)) ∧ Below w.heap.size w w' := by
  go_enter Try.func72, Try.ntmps72
  go_wp2
  go_loopw [3, 4, 5] (fun s c i wr => ∃ k : Nat, 3 ≤ k ∧ k ≤ 39 ∧ i = .int .i64 k ∧ c = .int .i64 (Ecc.cnt k) ∧ s = .int .u32 (Ecc.dt x k : Nat) ∧ Below w.heap.size w wr) (fun _ _ i _ => 39 - (intOf i).toNat)
  case atStart => exact ⟨3, by omega, by omega, rfl, rfl, rfl, Below.refl _ _⟩
  case round =>
    obtain ⟨k, hk1, hk, rfl, rfl, rfl, hb⟩ := hrel
    have hc := Ecc.cnt_le k
    by_cases hlt : k < 39
    · by_cases hb : Ecc.chkB k = true
      · go_wp2_with (go_at_call 59; refine (c37y _ _ (by assumption) (by assumption) (by assumption)).mono ?_; rintro e w' ⟨rfl, rfl⟩)
        go_roundw
        case rel => exact ⟨k + 1, by omega, by omega, by go_num, by rw [Ecc.cnt_skip _ hb], by rw [Ecc.dt_skip _ _ hb], by assumption⟩
        case measure => simp [intOf]; omega
      · have hb : Ecc.chkB k = false := by simpa using hb
        have hc1 := cut1 x k hx
        have hcn := Ecc.cnt_32 k hlt hb hk1
        go_wp2_with (go_at_call 59; refine (c37n _ _ (by assumption) (by assumption) (by assumption)).mono ?_; rintro e w' ⟨rfl, rfl⟩)
        go_roundw
        case rel => exact ⟨k + 1, by omega, by omega, by go_num, by rw [Ecc.cnt_go _ hk1 hb]; go_num, val_int (dat_round2 x k hk1 hlt hb), by assumption⟩
        case measure => simp [intOf]; omega
    · obtain rfl : k = 39 := by omega
      go_wp2
      go_ret
      exact ⟨rfl, hb⟩
set_option maxRecDepth 100000 in
theorem c16 (x : Nat) (w : World) (hx : x < 18446744073709551616) :
    Calls Try.prog 71 #[.int .u64 x] w fun e w' => e = .returned (.tuple #[.int .u64 ((Ecc.rep x).1 : Nat), .int .i64 ((Ecc.rep x).2 : Nat)]) ∧ Below w.heap.size w w' := by
  go_enter Try.func71, Try.ntmps71
  go_wp2_with (first | (go_at_call 60; refine (c18 _ _ (by assumption)).mono ?_; rintro e w' ⟨rfl, hb⟩) | (go_at_call 61; refine (c38 _ _ (by assumption)).mono ?_; rintro e w' ⟨rfl, rfl⟩) | (go_at_call 45; refine (c23 _ _ _ (by assumption)).mono ?_; rintro e w' ⟨rfl, rfl⟩))
  all_goals go_ret2
  · rw [Ecc.rep_hi' x (by assumption)]; exact ⟨rfl, by assumption⟩
  · rw [Ecc.rep_clean' x (by assumption) (by assumption) (by assumption)]; exact ⟨rfl, by assumption⟩
  · rw [Ecc.rep_even' x (by assumption) (by assumption) (by assumption)]; exact ⟨rfl, by assumption⟩
  · rw [Ecc.rep_far' x (by assumption) (by assumption) (by assumption)]; exact ⟨rfl, by assumption⟩
  · rw [Ecc.rep_fix' x (by assumption) (by assumption) (by assumption)]; exact ⟨rfl, by assumption⟩
set_option maxRecDepth 100000 in
theorem c15 (x : Nat) (w : World) (hx : x < 18446744073709551616) :
    Calls Try.prog 56 #[.int .u64 x] w fun e w' => e = .returned (.tuple #[.int .u32 ((Ecc.dec x).1 : Nat), .int .i64 ((Ecc.dec x).2 : Nat)]) ∧ Below w.heap.size w w' := by
  have hl := Ecc.rep_lt x hx
  go_enter Try.func56, Try.ntmps56
  go_wp2_with (first | (go_at_call 71; refine (c16 _ _ (by assumption)).mono ?_; rintro e w1 ⟨rfl, hb⟩) | (go_at_call 72; refine (c39 _ _ (by assumption)).mono ?_; rintro e w2 ⟨rfl, hb2⟩))
  all_goals go_ret2
  · rw [Ecc.dec_bad x (by assumption)]; exact ⟨rfl, by assumption⟩
  · rw [Ecc.dec_good x (by assumption)]; exact ⟨rfl, hb.trans (hb2.mono hb.size)⟩
theorem half (x k : Nat) : (x : Int) / 2 ^ k / 2 = ((x / 2 ^ (k + 1) : Nat) : Int) := by
  rw [Nat.pow_succ, ← Nat.div_div_eq_div_mul]; simp
theorem u32_bit (x k : Nat) (hx : x < 4294967296) : bits .and .u32 ((x : Int) / 2 ^ k) 1 = ((x / 2 ^ k % 2 : Nat) : Int) := by
  have e : (x : Int) / 2 ^ k = ((x / 2 ^ k : Nat) : Int) := by simp
  have h : x / 2 ^ k < 4294967296 := Nat.lt_of_le_of_lt (Nat.div_le_self _ _) hx
  rw [e, show (1 : Int) = ((1 : Nat) : Int) from rfl, u32_and_nat _ _ h (by decide), show (1 : Nat) = 2 ^ 1 - 1 from rfl, Nat.and_two_pow_sub_one_eq_mod]
theorem enc_round2 (x k : Nat) (hx : x < 4294967296) (h3 : 3 ≤ k) (h : k < 39) (hb : Ecc.chkB k = false) :
    bits .or .u64 ((Ecc.sp x k : Nat) : Int) (IntKind.u64.wrap (IntKind.u64.wrap (bits .and .u32 ((x : Int) / 2 ^ Ecc.cnt k) 1) * 2 ^ k)) = (Ecc.sp x (k + 1) : Nat) := by
  rw [u32_bit x _ hx, u64w _ (by have := Nat.mod_lt (x / 2 ^ Ecc.cnt k) (y := 2) (by decide); omega)]
  have h1 : x / 2 ^ Ecc.cnt k % 2 * 2 ^ k < 2 ^ 39 := bit_shl_lt _ _ _ _ h
  have h2 : Ecc.sp x k < 2 ^ 39 := Nat.lt_of_lt_of_le (Ecc.sp_lt x k) (Nat.pow_le_pow_right (by decide) (by omega))
  have h2 : Ecc.sp x k < 549755813888 := h2
  have h1 : x / 2 ^ Ecc.cnt k % 2 * 2 ^ k < 549755813888 := h1
  rw [u64shl _ _ (by omega), u64_or_nat _ _ (by omega) (by omega), Ecc.sp_or x k h3 hb]
set_option maxRecDepth 100000 in
theorem c14 (x : Nat) (w : World) (hx : x < 4294967296) :
    Calls Try.prog 42 #[.int .u32 x] w fun e w' => e = .returned (.int .u64 (Ecc.enc x : Nat)) ∧ Below w.heap.size w w' := by
  go_enter Try.func42, Try.ntmps42
  go_wp2
  go_loop [0, 3, 4] (fun d s i => ∃ k : Nat, 3 ≤ k ∧ k ≤ 39 ∧ i = .int .i64 k ∧ d = .int .u32 (x / 2 ^ Ecc.cnt k : Nat) ∧ s = .int .u64 (Ecc.sp x k : Nat)) (fun _ _ i => 39 - (intOf i).toNat)
  case atStart => exact ⟨3, by omega, by omega, rfl, by simp [Ecc.cnt], rfl⟩
  case round =>
    obtain ⟨k, hk1, hk, rfl, rfl, rfl⟩ := hrel
    have hc := Ecc.cnt_le k
    by_cases hlt : k < 39
    · by_cases hb : Ecc.chkB k = true
      · go_wp2_with (go_at_call 59; refine (c37y _ _ (by assumption) (by assumption) (by assumption)).mono ?_; rintro e w' ⟨rfl, rfl⟩)
        go_round
        case rel => exact ⟨k + 1, by omega, by omega, by go_num, by rw [Ecc.cnt_skip _ hb]; simp, by rw [Ecc.sp_skip _ _ hb]⟩
        case measure => simp [intOf]; omega
      · have hb : Ecc.chkB k = false := by simpa using hb
        go_wp2_with (go_at_call 59; refine (c37n _ _ (by assumption) (by assumption) (by assumption)).mono ?_; rintro e w' ⟨rfl, rfl⟩)
        go_round
        case rel => exact ⟨k + 1, by omega, by omega, by go_num, by rw [Ecc.cnt_go _ hk1 hb]; exact val_int (half x _), val_int (enc_round2 x k hx hk1 hlt hb)⟩
        case measure => simp [intOf]; omega
    · obtain rfl : k = 39 := by omega
      have hsl : Ecc.sp x 39 < 18446744073709551616 := Nat.lt_trans (Ecc.sp_lt x 39) (by decide)
      go_wp2_with (go_at_call 60; refine (c18 _ _ (by assumption)).mono ?_; rintro e w1 ⟨rfl, hb1⟩)
      have h39 : Ecc.sp x 39 = Ecc.wd x 0 := (Ecc.wd_zero x).symm
      generalize hs : Ecc.syn (Ecc.sp x 39) = s
      rw [h39]
      clear h39 hsl
      have HS : Hid (Ecc.syn (Ecc.sp x 39) = s) := hs
      have hs64 : s < 64 := by rw [← hs]; exact Ecc.syn_lt _
      clear hs
      go_loopw [3, 25] (fun v i wr => ∃ k : Nat, k ≤ 6 ∧ i = .int .i64 k ∧ v = .int .u64 (Ecc.wd x k : Nat) ∧ Below w.heap.size w wr) (fun _ i _ => 6 - (intOf i).toNat)
      case atStart => exact ⟨0, by omega, rfl, rfl, hb1⟩
      case round =>
        obtain ⟨j, hj, rfl, rfl, hb⟩ := hrel
        by_cases hjl : j < 6
        · go_wp2
          go_region
          go_wp2
          go_roundw
          case rel => exact ⟨j + 1, by omega, by go_num, val_int (chk_round2 x s j hjl hs64 HS.out), hb.drew⟩
          case measure => simp [intOf]; omega
        · obtain rfl : j = 6 := by omega
          have hwl : Ecc.wd x 6 < 18446744073709551616 := Nat.lt_trans (Ecc.wd_lt x 6 (by omega)) (by decide)
          go_wp2_with (go_at_call 61; refine (c38 _ _ (by assumption)).mono ?_; rintro e w' ⟨rfl, rfl⟩)
          go_ret
          exact ⟨ret_int (enc_end2 x), hb⟩
end Go.Proofs.Ytdboplkgnnidcaa
