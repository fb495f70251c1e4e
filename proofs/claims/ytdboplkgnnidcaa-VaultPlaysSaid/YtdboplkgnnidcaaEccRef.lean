/- The contracts of the specification's functions (layer 6). -/
import Derived.Test.YtdboplkgnnidcaaProg
import Derived.Test.YtdboplkgnnidcaaEccStep
import Derived.Test.YtdboplkgnnidcaaNum
set_option linter.unusedVariables false
namespace Go.Proofs.Ytdboplkgnnidcaa
open Go.RowKit Go.Proofs.Num

theorem chkB_of (p : Nat) : Ecc.chkB p = true ↔ (p = 0 ∨ p = 1 ∨ p = 2 ∨ p = 4 ∨ p = 8 ∨ p = 16 ∨ p = 32) := by
  simp [Ecc.chkB, or_assoc]
theorem xf_syn (x k : Nat) (h : k < 39) : Ecc.xf (fun i => i) k x < 64 := Ecc.xf_lt _ 6 k (by intro i hi; show i < 2 ^ 6; omega) x
theorem xf_one (x k : Nat) : Ecc.xf (fun _ => 1) k x < 2 := Ecc.xf_lt _ 1 k (by intro i hi; show 1 < 2 ^ 1; decide) x
theorem enc_round (x k : Nat) (h3 : 3 ≤ k) (h : k < 39) (hb : Ecc.chkB k = false) :
    IntKind.u64.wrap ((Ecc.sp x k : Nat) + IntKind.u64.wrap (IntKind.u64.wrap (((x : Int) / 2 ^ min (Ecc.cnt k) 32).tmod 2) * 2 ^ k)) = (Ecc.sp x (k + 1) : Nat) := by
  have hc := Ecc.cnt_32 k h hb h3
  rw [show min (Ecc.cnt k) 32 = Ecc.cnt k by omega, tm2, u64w _ (by have := Nat.mod_lt (x / 2 ^ Ecc.cnt k) (y := 2) (by decide); omega)]
  have h1 : x / 2 ^ Ecc.cnt k % 2 * 2 ^ k < 2 ^ 39 := bit_shl_lt _ _ _ _ h
  have h2 : Ecc.sp x k < 2 ^ 39 := Nat.lt_of_lt_of_le (Ecc.sp_lt x k) (Nat.pow_le_pow_right (by decide) (by omega))
  have h2 : Ecc.sp x k < 549755813888 := h2
  have h1 : x / 2 ^ Ecc.cnt k % 2 * 2 ^ k < 549755813888 := h1
  rw [u64shl _ _ (by omega), u64add _ _ (by omega), Ecc.sp_add x k h3 hb]
theorem pow32 (j : Nat) (hj : j < 6) : 2 ^ j ≤ 32 := by
  have : 2 ^ j ≤ 2 ^ 5 := Nat.pow_le_pow_right (by decide) (by omega)
  omega
theorem dat_round (x k : Nat) (h3 : 3 ≤ k) (h : k < 39) (hb : Ecc.chkB k = false) :
    ((Ecc.dt x k : Nat) + (x : Int) / 2 ^ k % 2 * 2 ^ min (Ecc.cnt k) 32 % 4294967296) % 4294967296 = (Ecc.dt x (k + 1) : Nat) := by
  have hc := Ecc.cnt_32 k h hb h3
  have h1 : x / 2 ^ k % 2 * 2 ^ Ecc.cnt k < 2 ^ 32 := bit_shl_lt _ _ _ _ hc
  have h2 : Ecc.dt x k + x / 2 ^ k % 2 * 2 ^ Ecc.cnt k < 2 ^ 32 := by
    rw [Ecc.dt_add x k h3 hb]
    have := Ecc.dt_lt x (k + 1)
    rw [Ecc.cnt_go k h3 hb] at this
    exact Nat.lt_of_lt_of_le this (Nat.pow_le_pow_right (by decide) (by omega))
  rw [← Ecc.dt_add x k h3 hb, show min (Ecc.cnt k) 32 = Ecc.cnt k by omega, bit_cast]
  have e : (((x / 2 ^ k % 2 : Nat) : Int)) * 2 ^ Ecc.cnt k = ((x / 2 ^ k % 2 * 2 ^ Ecc.cnt k : Nat) : Int) := by simp
  rw [e]
  omega
theorem chk_round (x s j : Nat) (hj : j < 6) (hs : Ecc.syn (Ecc.sp x 39) = s) (hb : ((s : Int) / 2 ^ j).tmod 2 = 1) :
    IntKind.u64.wrap ((Ecc.wd x j : Nat) + IntKind.u64.wrap (2 ^ min (IntKind.u64.wrap (2 ^ j)).toNat 64)) = (Ecc.wd x (j + 1) : Nat) := by
  have hp : (2 : Nat) ^ j ≤ 32 := pow32 j hj
  have h1 : Ecc.wd x j < 549755813888 := Ecc.wd_lt x j (by omega)
  have h2 : 2 ^ 2 ^ j < 549755813888 := by
    have : 2 ^ 2 ^ j < 2 ^ 39 := Nat.pow_lt_pow_right (by decide) (by omega)
    exact this
  rw [u64pow j (by omega), Int.toNat_natCast, show min (2 ^ j) 64 = 2 ^ j by omega, u64pow _ (by omega), u64add _ _ (by omega)]
  subst hs
  rw [Ecc.wd_yes x j hj (by rw [bit_cast, ← tm2]; exact hb)]
theorem chk_round_no (x s j : Nat) (hs : Ecc.syn (Ecc.sp x 39) = s) (hb : ¬ ((s : Int) / 2 ^ j).tmod 2 = 1) :
    ((Ecc.wd x j : Nat) : Int) = (Ecc.wd x (j + 1) : Nat) := by
  subst hs
  rw [Ecc.wd_no x j (by rw [bit_cast, ← tm2]; exact hb)]
theorem enc_end (x : Nat) : IntKind.u64.wrap ((Ecc.wd x 6 : Nat) + IntKind.u64.wrap (Ecc.par (Ecc.wd x 6) : Nat)) = (Ecc.enc x : Nat) := by
  have h1 : Ecc.wd x 6 < 549755813888 := Ecc.wd_lt x 6 (by omega)
  have h2 := Ecc.par_lt (Ecc.wd x 6)
  rw [u64w _ (by omega), u64add _ _ (by omega), Ecc.enc_add]
theorem flip_val (x : Nat) (b : Int) (hx : x < 18446744073709551616) (h1 : 0 ≤ b) (h2 : b ≤ 38) :
    bits .xor .u64 (x : Int) (IntKind.u64.wrap (2 ^ b.toNat)) = (Ecc.flp x b : Nat) := by
  rw [Ecc.flp_in x b h1 h2, u64pow _ (by omega)]
  have : 2 ^ b.toNat < 2 ^ 64 := Nat.pow_lt_pow_right (by decide) (by omega)
  exact u64_xor_nat _ _ hx this
end Go.Proofs.Ytdboplkgnnidcaa

