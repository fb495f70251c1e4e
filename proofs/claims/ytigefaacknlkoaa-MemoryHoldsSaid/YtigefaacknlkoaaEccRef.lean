/- The contracts of the specification's functions (layer 6). -/
import Derived.Test.YtigefaacknlkoaaProg
import Derived.Test.YtigefaacknlkoaaEccStep
import Derived.Test.YtigefaacknlkoaaNum
set_option linter.unusedVariables false
namespace Go.Proofs.Ytigefaacknlkoaa
open Go.RowKit Go.Proofs.Num

theorem c45 (x p : Nat) (w : World) (h1 : p < 64) :
    Calls Try.prog 45 #[.int .u64 x, .int .i64 p] w fun e w' => e = .returned (.int .i64 ((x / 2 ^ p % 2 : Nat) : Int)) ∧ w = w' := by
  go_enter Try.func45, Try.ntmps45
  go_wp2
  go_ret
  exact ⟨ret_int (by rw [tm2]; exact w64 (by omega) (by omega)), rfl⟩
theorem chkB_of (p : Nat) : Ecc.chkB p = true ↔ (p = 0 ∨ p = 1 ∨ p = 2 ∨ p = 4 ∨ p = 8 ∨ p = 16 ∨ p = 32) := by
  simp [Ecc.chkB, or_assoc]
theorem c40y (p : Nat) (w : World) (h : Ecc.chkB p = true) :
    Calls Try.prog 40 #[.int .i64 p] w fun e w' => e = .returned (.bool true) ∧ w = w' := by
  rcases (chkB_of p).1 h with h | h | h | h | h | h | h <;> subst h <;>
    (go_enter Try.func40, Try.ntmps40; go_wp2; go_ret; exact ⟨rfl, rfl⟩)
theorem c40n (p : Nat) (w : World) (h : Ecc.chkB p = false) :
    Calls Try.prog 40 #[.int .i64 p] w fun e w' => e = .returned (.bool false) ∧ w = w' := by
  have h' : ¬ (p = 0 ∨ p = 1 ∨ p = 2 ∨ p = 4 ∨ p = 8 ∨ p = 16 ∨ p = 32) := fun k => by rw [(chkB_of p).2 k] at h; exact Bool.noConfusion h
  have a0 : ((p : Int) == 0) = false := by simp; omega
  have a1 : ((p : Int) == 1) = false := by simp; omega
  have a2 : ((p : Int) == 2) = false := by simp; omega
  have a4 : ((p : Int) == 4) = false := by simp; omega
  have a8 : ((p : Int) == 8) = false := by simp; omega
  have a16 : ((p : Int) == 16) = false := by simp; omega
  have a32 : ((p : Int) == 32) = false := by simp; omega
  clear h h'
  go_enter Try.func40, Try.ntmps40
  go_wp2
  go_ret
  exact ⟨rfl, rfl⟩

theorem xf_syn (x k : Nat) (h : k < 39) : Ecc.xf (fun i => i) k x < 64 := Ecc.xf_lt _ 6 k (by intro i hi; show i < 2 ^ 6; omega) x
theorem xf_one (x k : Nat) : Ecc.xf (fun _ => 1) k x < 2 := Ecc.xf_lt _ 1 k (by intro i hi; show 1 < 2 ^ 1; decide) x
theorem enc_round (x k : Nat) (h3 : 3 ≤ k) (h : k < 39) (hb : Ecc.chkB k = false) :
    IntKind.u64.wrap ((Ecc.sp x k : Nat) + IntKind.u64.wrap (IntKind.u64.wrap (((x : Int) / 2 ^ min (Ecc.cnt k) 32).tmod 2) * 2 ^ k)) = (Ecc.sp x (k + 1) : Nat) := by
  have hc := Ecc.cnt_32 k h hb h3
  rw [show min (Ecc.cnt k) 32 = Ecc.cnt k by omega, tm2, u64w _ (by have := Nat.mod_lt (x / 2 ^ Ecc.cnt k) (y := 2) (by decide); omega)]
  have h1 : x / 2 ^ Ecc.cnt k % 2 * 2 ^ k < 2 ^ 39 := bit_shl_lt _ _ _ _ h
  have h2 : Ecc.sp x k < 2 ^ 39 := Nat.lt_of_lt_of_le (Ecc.sp_lt x k) (Nat.pow_le_pow_right (by decide) (by omega))
  have h2 : Ecc.sp x k < 549755813888 := h2
  have h1 : x / 2 ^ Ecc.cnt k % 2 * 2 ^ k < 549755813888 := h1
  rw [u64shl _ _ (by omega), u64add _ _ (by omega), Ecc.sp_add x k h3 hb]
theorem pow32 (j : Nat) (hj : j < 6) : 2 ^ j ≤ 32 := by
  have : 2 ^ j ≤ 2 ^ 5 := Nat.pow_le_pow_right (by decide) (by omega)
  omega
theorem dat_round (x k : Nat) (h3 : 3 ≤ k) (h : k < 39) (hb : Ecc.chkB k = false) :
    ((Ecc.dt x k : Nat) + (x : Int) / 2 ^ k % 2 * 2 ^ min (Ecc.cnt k) 32 % 4294967296) % 4294967296 = (Ecc.dt x (k + 1) : Nat) := by
  have hc := Ecc.cnt_32 k h hb h3
  have h1 : x / 2 ^ k % 2 * 2 ^ Ecc.cnt k < 2 ^ 32 := bit_shl_lt _ _ _ _ hc
  have h2 : Ecc.dt x k + x / 2 ^ k % 2 * 2 ^ Ecc.cnt k < 2 ^ 32 := by
    rw [Ecc.dt_add x k h3 hb]
    have := Ecc.dt_lt x (k + 1)
    rw [Ecc.cnt_go k h3 hb] at this
    exact Nat.lt_of_lt_of_le this (Nat.pow_le_pow_right (by decide) (by omega))
  rw [← Ecc.dt_add x k h3 hb, show min (Ecc.cnt k) 32 = Ecc.cnt k by omega, bit_cast]
  have e : (((x / 2 ^ k % 2 : Nat) : Int)) * 2 ^ Ecc.cnt k = ((x / 2 ^ k % 2 * 2 ^ Ecc.cnt k : Nat) : Int) := by simp
  rw [e]
  omega
theorem chk_round (x s j : Nat) (hj : j < 6) (hs : Ecc.syn (Ecc.sp x 39) = s) (hb : ((s : Int) / 2 ^ j).tmod 2 = 1) :
    IntKind.u64.wrap ((Ecc.wd x j : Nat) + IntKind.u64.wrap (2 ^ min (IntKind.u64.wrap (2 ^ j)).toNat 64)) = (Ecc.wd x (j + 1) : Nat) := by
  have hp : (2 : Nat) ^ j ≤ 32 := pow32 j hj
  have h1 : Ecc.wd x j < 549755813888 := Ecc.wd_lt x j (by omega)
  have h2 : 2 ^ 2 ^ j < 549755813888 := by
    have : 2 ^ 2 ^ j < 2 ^ 39 := Nat.pow_lt_pow_right (by decide) (by omega)
    exact this
  rw [u64pow j (by omega), Int.toNat_natCast, show min (2 ^ j) 64 = 2 ^ j by omega, u64pow _ (by omega), u64add _ _ (by omega)]
  subst hs
  rw [Ecc.wd_yes x j hj (by rw [bit_cast, ← tm2]; exact hb)]
theorem chk_round_no (x s j : Nat) (hs : Ecc.syn (Ecc.sp x 39) = s) (hb : ¬ ((s : Int) / 2 ^ j).tmod 2 = 1) :
    ((Ecc.wd x j : Nat) : Int) = (Ecc.wd x (j + 1) : Nat) := by
  subst hs
  rw [Ecc.wd_no x j (by rw [bit_cast, ← tm2]; exact hb)]
theorem enc_end (x : Nat) : IntKind.u64.wrap ((Ecc.wd x 6 : Nat) + IntKind.u64.wrap (Ecc.par (Ecc.wd x 6) : Nat)) = (Ecc.enc x : Nat) := by
  have h1 : Ecc.wd x 6 < 549755813888 := Ecc.wd_lt x 6 (by omega)
  have h2 := Ecc.par_lt (Ecc.wd x 6)
  rw [u64w _ (by omega), u64add _ _ (by omega), Ecc.enc_add]
set_option maxRecDepth 100000 in
theorem c22 (x : Nat) (w : World) :
    Calls Try.prog 22 #[.int .u64 x] w fun e w' => e = .returned (.int .i64 (Ecc.syn x : Nat)) ∧ w = w' := by
  go_enter Try.func22, Try.ntmps22
  go_wp2
  go_loop [3, 4] (fun s i => ∃ k : Nat, 1 ≤ k ∧ k ≤ 39 ∧ i = .int .i64 k ∧ s = .int .i64 (Ecc.xf (fun i => i) k x : Nat)) (fun _ i => 39 - (intOf i).toNat)
  case atStart => exact ⟨1, by omega, by omega, rfl, by simp [Ecc.xf]⟩
  case round =>
    obtain ⟨k, hk1, hk, rfl, rfl⟩ := hrel
    by_cases hlt : k < 39
    · go_wp2_with (go_at_call 45; refine (c45 _ _ _ (by omega)).mono ?_; rintro e w' ⟨rfl, rfl⟩)
      · go_round
        case rel => exact ⟨k + 1, by omega, by omega, by go_num, by rw [Ecc.xf_yes _ _ _ (by assumption), i64_xor _ _ (by have := xf_syn x k hlt; omega) (by omega)]⟩
        case measure => simp [intOf]; omega
      · go_round
        case rel => exact ⟨k + 1, by omega, by omega, by go_num, by rw [Ecc.xf_no _ _ _ (by assumption)]⟩
        case measure => simp [intOf]; omega
    · go_wp2
      go_ret
      obtain rfl : k = 39 := by omega
      exact ⟨rfl, rfl⟩
set_option maxRecDepth 100000 in
theorem c41 (x : Nat) (w : World) :
    Calls Try.prog 41 #[.int .u64 x] w fun e w' => e = .returned (.int .i64 (Ecc.par x : Nat)) ∧ w = w' := by
  go_enter Try.func41, Try.ntmps41
  go_wp2
  go_loop [3, 4] (fun s i => ∃ k : Nat, k ≤ 39 ∧ i = .int .i64 k ∧ s = .int .i64 (Ecc.xf (fun _ => 1) k x : Nat)) (fun _ i => 39 - (intOf i).toNat)
  case atStart => exact ⟨0, by omega, rfl, by simp [Ecc.xf]⟩
  case round =>
    obtain ⟨k, hk, rfl, rfl⟩ := hrel
    by_cases hlt : k < 39
    · go_wp2_with (go_at_call 45; refine (c45 _ _ _ (by omega)).mono ?_; rintro e w' ⟨rfl, rfl⟩)
      go_round
      case rel => exact ⟨k + 1, by omega, by go_num, val_int (by rw [bit_cast, i64_xor _ _ (by have := xf_one x k; omega) (by have := Nat.mod_lt (x / 2 ^ k) (y := 2) (by decide); omega), Ecc.xf1_succ])⟩
      case measure => simp [intOf]; omega
    · go_wp2
      go_ret
      obtain rfl : k = 39 := by omega
      exact ⟨rfl, rfl⟩
set_option maxRecDepth 100000 in
theorem c25 (x : Nat) (w : World) :
    Calls Try.prog 25 #[.int .u64 x] w fun e w' => e = .returned (.int .i64 (Ecc.ones 64 x : Nat)) ∧ w = w' := by
  go_enter Try.func25, Try.ntmps25
  go_wp2
  go_loop [3, 4] (fun s i => ∃ k : Nat, k ≤ 64 ∧ i = .int .i64 k ∧ s = .int .i64 (Ecc.ones k x : Nat)) (fun _ i => 64 - (intOf i).toNat)
  case atStart => exact ⟨0, by omega, rfl, by simp [Ecc.ones]⟩
  case round =>
    obtain ⟨k, hk, rfl, rfl⟩ := hrel
    have hle := Ecc.ones_le k x
    by_cases hlt : k < 64
    · go_wp2_with (go_at_call 45; refine (c45 _ _ _ (by omega)).mono ?_; rintro e w' ⟨rfl, rfl⟩)
      go_round
      case rel => exact ⟨k + 1, by omega, by go_num, val_int (by rw [bit_cast]; simp [Ecc.ones])⟩
      case measure => simp [intOf]; omega
    · go_wp2
      go_ret
      obtain rfl : k = 64 := by omega
      exact ⟨rfl, rfl⟩
set_option maxRecDepth 100000 in
theorem c17 (x : Nat) (w : World) :
    Calls Try.prog 17 #[.int .u32 x] w fun e w' => e = .returned (.int .u64 (Ecc.enc x : Nat)) ∧ w = w' := by
  go_enter Try.func17, Try.ntmps17
  go_wp2
  go_loop [3, 4, 5] (fun s c i => ∃ k : Nat, 3 ≤ k ∧ k ≤ 39 ∧ i = .int .i64 k ∧ c = .int .i64 (Ecc.cnt k) ∧ s = .int .u64 (Ecc.sp x k : Nat)) (fun _ _ i => 39 - (intOf i).toNat)
  case atStart => exact ⟨3, by omega, by omega, rfl, rfl, rfl⟩
  case round =>
    obtain ⟨k, hk1, hk, rfl, rfl, rfl⟩ := hrel
    have hc := Ecc.cnt_le k
    by_cases hlt : k < 39
    · by_cases hb : Ecc.chkB k = true
      · go_wp2_with (go_at_call 40; refine (c40y _ _ (by assumption)).mono ?_; rintro e w' ⟨rfl, rfl⟩)
        go_round
        case rel => exact ⟨k + 1, by omega, by omega, by go_num, by rw [Ecc.cnt_skip _ hb], by rw [Ecc.sp_skip _ _ hb]⟩
        case measure => simp [intOf]; omega
      · have hb : Ecc.chkB k = false := by simpa using hb
        go_wp2_with (go_at_call 40; refine (c40n _ _ (by assumption)).mono ?_; rintro e w' ⟨rfl, rfl⟩)
        go_round
        case rel => exact ⟨k + 1, by omega, by omega, by go_num, by rw [Ecc.cnt_go _ hk1 hb]; go_num, val_int (enc_round x k hk1 hlt hb)⟩
        case measure => simp [intOf]; omega
    · obtain rfl : k = 39 := by omega
      have h39 : Ecc.sp x 39 = Ecc.wd x 0 := (Ecc.wd_zero x).symm
      go_wp2_with (go_at_call 22; refine (c22 _ _).mono ?_; rintro e w' ⟨rfl, rfl⟩)
      rw [← h39]
      have hn : Ecc.sp x 39 = Ecc.wd x 0 := h39
      clear h39
      generalize hs : Ecc.syn (Ecc.sp x 39) = s
      rw [hn]
      clear hn
      have HS : Hid (Ecc.syn (Ecc.sp x 39) = s) := hs
      clear hs
      go_loop [3, 7] (fun v i => ∃ k : Nat, k ≤ 6 ∧ i = .int .i64 k ∧ v = .int .u64 (Ecc.wd x k : Nat)) (fun _ i => 6 - (intOf i).toNat)
      case atStart => exact ⟨0, by omega, rfl, rfl⟩
      case round =>
        obtain ⟨j, hj, rfl, rfl⟩ := hrel
        have hw1 := Ecc.wd_lt x j hj
        by_cases hjl : j < 6
        · go_wp2
          · have hb : ((s : Int) / 2 ^ j).tmod 2 = 1 := by simpa using (show (((s : Int) / 2 ^ j).tmod 2 == 1) = true by assumption)
            go_round
            case rel => exact ⟨j + 1, by omega, by go_num, val_int (chk_round x s j hjl HS.out hb)⟩
            case measure => simp [intOf]; omega
          · have hb : ¬ ((s : Int) / 2 ^ j).tmod 2 = 1 := by simpa using (show (((s : Int) / 2 ^ j).tmod 2 == 1) = false by assumption)
            go_round
            case rel => exact ⟨j + 1, by omega, by go_num, val_int (chk_round_no x s j HS.out hb)⟩
            case measure => simp [intOf]; omega
        · obtain rfl : j = 6 := by omega
          go_wp2_with (go_at_call 41; refine (c41 _ _).mono ?_; rintro e w' ⟨rfl, rfl⟩)
          go_ret
          exact ⟨ret_int (enc_end x), rfl⟩
set_option maxRecDepth 100000 in
theorem c44 (x : Nat) (w : World) :
    Calls Try.prog 44 #[.int .u64 x] w fun e w' => e = .returned (.int .u32 (Ecc.dat x : Nat)) ∧ w = w' := by
  go_enter Try.func44, Try.ntmps44
  go_wp2
  go_loop [3, 4, 5] (fun s c i => ∃ k : Nat, 3 ≤ k ∧ k ≤ 39 ∧ i = .int .i64 k ∧ c = .int .i64 (Ecc.cnt k) ∧ s = .int .u32 (Ecc.dt x k : Nat)) (fun _ _ i => 39 - (intOf i).toNat)
  case atStart => exact ⟨3, by omega, by omega, rfl, rfl, rfl⟩
  case round =>
    obtain ⟨k, hk1, hk, rfl, rfl, rfl⟩ := hrel
    have hc := Ecc.cnt_le k
    by_cases hlt : k < 39
    · by_cases hb : Ecc.chkB k = true
      · go_wp2_with (first | (go_at_call 40; refine (c40y _ _ (by assumption)).mono ?_; rintro e w' ⟨rfl, rfl⟩) | (go_at_call 45; refine (c45 _ _ _ (by omega)).mono ?_; rintro e w' ⟨rfl, rfl⟩))
        go_round
        case rel => exact ⟨k + 1, by omega, by omega, by go_num, by rw [Ecc.cnt_skip _ hb], by rw [Ecc.dt_skip _ _ hb]⟩
        case measure => simp [intOf]; omega
      · have hb : Ecc.chkB k = false := by simpa using hb
        go_wp2_with (first | (go_at_call 40; refine (c40n _ _ (by assumption)).mono ?_; rintro e w' ⟨rfl, rfl⟩) | (go_at_call 45; refine (c45 _ _ _ (by omega)).mono ?_; rintro e w' ⟨rfl, rfl⟩))
        go_round
        case rel => exact ⟨k + 1, by omega, by omega, by go_num, by rw [Ecc.cnt_go _ hk1 hb]; go_num, val_int (dat_round x k hk1 hlt hb)⟩
        case measure => simp [intOf]; omega
    · obtain rfl : k = 39 := by omega
      go_wp2
      go_ret
      exact ⟨rfl, rfl⟩
theorem flip_val (x : Nat) (b : Int) (hx : x < 18446744073709551616) (h1 : 0 ≤ b) (h2 : b ≤ 38) :
    bits .xor .u64 (x : Int) (IntKind.u64.wrap (2 ^ b.toNat)) = (Ecc.flp x b : Nat) := by
  rw [Ecc.flp_in x b h1 h2, u64pow _ (by omega)]
  have : 2 ^ b.toNat < 2 ^ 64 := Nat.pow_lt_pow_right (by decide) (by omega)
  exact u64_xor_nat _ _ hx this
theorem c24 (x : Nat) (b : Int) (w : World) (hx : x < 18446744073709551616) :
    Calls Try.prog 24 #[.int .u64 x, .int .i64 b] w fun e w' => e = .returned (.int .u64 (Ecc.flp x b : Nat)) ∧ w = w' := by
  by_cases h : b < 0 ∨ 38 < b
  · have e := Ecc.flp_out x b h
    rw [e]; clear e
    go_enter Try.func24, Try.ntmps24
    go_wp2
    all_goals (go_ret; exact ⟨rfl, rfl⟩)
  · have h1 : ¬ b < 0 := by omega
    have h2 : ¬ 38 < b := by omega
    clear h
    go_enter Try.func24, Try.ntmps24
    go_wp2
    go_ret
    exact ⟨ret_int (flip_val x b hx h1 h2), rfl⟩
set_option maxRecDepth 100000 in
theorem c21 (x : Nat) (w : World) (hx : x < 18446744073709551616) :
    Calls Try.prog 21 #[.int .u64 x] w fun e w' => e = .returned (.tuple #[.int .u64 ((Ecc.rep x).1 : Nat), .int .i64 ((Ecc.rep x).2 : Nat)]) ∧ w = w' := by
  go_enter Try.func21, Try.ntmps21
  go_wp2_with (first | (go_at_call 22; refine (c22 _ _).mono ?_; rintro e w' ⟨rfl, rfl⟩) | (go_at_call 41; refine (c41 _ _).mono ?_; rintro e w' ⟨rfl, rfl⟩) | (go_at_call 24; refine (c24 _ _ _ (by assumption)).mono ?_; rintro e w' ⟨rfl, rfl⟩))
  all_goals go_ret2
  all_goals first
    | (have hs : Ecc.syn x = 0 := by assumption
       rw [Ecc.rep_clean x (by assumption) (by assumption) (by assumption)]; exact ⟨rfl, rfl⟩)
    | (rw [Ecc.rep_even x (by assumption) (by assumption) (by assumption)]; exact ⟨rfl, rfl⟩)
    | (rw [Ecc.rep_far x (by assumption) (by assumption) (by assumption)]; exact ⟨rfl, rfl⟩)
    | (rw [Ecc.rep_fix x (by assumption) (by assumption) (by assumption)]; exact ⟨rfl, rfl⟩)
    | (rw [Ecc.rep_hi x (by assumption)]; exact ⟨rfl, rfl⟩)
set_option maxRecDepth 100000 in
theorem c20 (x : Nat) (w : World) (hx : x < 18446744073709551616) :
    Calls Try.prog 20 #[.int .u64 x] w fun e w' => e = .returned (.tuple #[.int .u32 ((Ecc.dec x).1 : Nat), .int .i64 ((Ecc.dec x).2 : Nat)]) ∧ w = w' := by
  go_enter Try.func20, Try.ntmps20
  go_wp2_with (first | (go_at_call 21; refine (c21 _ _ (by assumption)).mono ?_; rintro e w' ⟨rfl, rfl⟩) | (go_at_call 44; refine (c44 _ _).mono ?_; rintro e w' ⟨rfl, rfl⟩))
  all_goals go_ret2
  · rw [Ecc.dec_bad x (by assumption)]; exact ⟨rfl, rfl⟩
  · rw [Ecc.dec_good x (by assumption)]; exact ⟨rfl, rfl⟩
end Go.Proofs.Ytigefaacknlkoaa
