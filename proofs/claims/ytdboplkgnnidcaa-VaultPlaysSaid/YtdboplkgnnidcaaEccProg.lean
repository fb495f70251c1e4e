/- The contracts of the program's functions (package ecc). -/
import Derived.Test.YtdboplkgnnidcaaEccRef
import Derived.Test.YtdboplkgnnidcaaEccPop
set_option linter.unusedVariables false
namespace Go.Proofs.Ytdboplkgnnidcaa
open Go.RowKit Go.Proofs.Num
theorem and64 (a m : Nat) (ha : a < 18446744073709551616) (hm : m < 18446744073709551616) : bits .and .u64 (a : Int) (m : Int) = ((a &&& m : Nat) : Int) := u64_and_nat a m ha hm
theorem and_lt64 (a m n : Nat) (hm : m < n) : a &&& m < n := Nat.lt_of_le_of_lt Nat.and_le_right hm
theorem pop1 (x : Nat) (hx : x < 18446744073709551616) : IntKind.u64.wrap (bits .and .u64 ((x : Int) / 2) 6148914691236517205 + bits .and .u64 (x : Int) 6148914691236517205) = (Ecc.st1 8 x : Nat) := by
  have e1 := and64 (x / 2) 6148914691236517205 (by omega) (by decide)
  have e2 := and64 x 6148914691236517205 hx (by decide)
  have l1 := and_lt64 (x / 2) 6148914691236517205 6148914691236517206 (by decide)
  have l2 := and_lt64 x 6148914691236517205 6148914691236517206 (by decide)
  rw [show ((x : Int) / 2) = ((x / 2 : Nat) : Int) by simp, show (6148914691236517205 : Int) = ((6148914691236517205 : Nat) : Int) from rfl, e1, e2, u64add _ _ (by omega)]
  rfl
theorem pop2 (x : Nat) (hx : x < 18446744073709551616) : IntKind.u64.wrap (bits .and .u64 ((x : Int) / 4) 3689348814741910323 + bits .and .u64 (x : Int) 3689348814741910323) = (Ecc.st2 8 x : Nat) := by
  have e1 := and64 (x / 4) 3689348814741910323 (by omega) (by decide)
  have e2 := and64 x 3689348814741910323 hx (by decide)
  have l1 := and_lt64 (x / 4) 3689348814741910323 3689348814741910324 (by decide)
  have l2 := and_lt64 x 3689348814741910323 3689348814741910324 (by decide)
  rw [show ((x : Int) / 4) = ((x / 4 : Nat) : Int) by simp, show (3689348814741910323 : Int) = ((3689348814741910323 : Nat) : Int) from rfl, e1, e2, u64add _ _ (by omega)]
  rfl
theorem pop3 (x : Nat) (hx : x + x / 16 < 18446744073709551616) : bits .and .u64 (IntKind.u64.wrap ((x : Int) / 16 + (x : Int))) 1085102592571150095 = (Ecc.st3 8 x : Nat) := by
  rw [show ((x : Int) / 16) = ((x / 16 : Nat) : Int) by simp, u64add _ _ (by omega), show (1085102592571150095 : Int) = ((1085102592571150095 : Nat) : Int) from rfl, and64 _ _ (by omega) (by decide)]
  rfl
theorem pop4 (y z d : Nat) (h : z = y + y / d) (hz : z < 18446744073709551616) : IntKind.u64.wrap ((y : Int) + (y : Int) / (d : Nat)) = (z : Nat) := by
  rw [← Int.natCast_ediv, u64add _ _ (by omega), h]
theorem pop5 (z : Nat) : bits .and .i64 (wrap64 (z : Int)) 127 = ((z % 128 : Nat) : Int) := by
  have e : (BitVec.ofInt 64 (wrap64 (z : Int))).toNat = z % 18446744073709551616 := by
    rw [wrap64, BitVec.toNat_ofInt]; omega
  show IntKind.i64.wrap ((BitVec.ofInt 64 (wrap64 (z : Int)) &&& BitVec.ofInt 64 127).toNat : Int) = _
  rw [BitVec.toNat_and, e, show (BitVec.ofInt 64 127).toNat = 2 ^ 7 - 1 from rfl, Nat.and_two_pow_sub_one_eq_mod, i64w _ (by omega)]
  omega
set_option maxRecDepth 100000 in
theorem c43 (x : Nat) (w : World) (hx : x < 18446744073709551616) :
    Calls Try.prog 75 #[.int .u64 x] w fun e w' => e = .returned (.int .i64 (Ecc.ones 64 x : Nat)) ∧ w = w' := by
  have g1 := pop1 x hx
  have g2 := pop2 (Ecc.st1 8 x) (Ecc.st1_lt 8 x hx)
  have g3 := pop3 (Ecc.F 8 x) (Ecc.F_lt x)
  obtain ⟨z1, z2, z3, e1, e2, e3, e4, l1, l2, l3⟩ := Ecc.count x
  have g4 : IntKind.u64.wrap (((Ecc.st3 8 (Ecc.F 8 x) : Nat) : Int) + ((Ecc.st3 8 (Ecc.F 8 x) : Nat) : Int) / 256) = (z1 : Nat) := pop4 _ _ 256 e1 l1
  have g5 : IntKind.u64.wrap ((z1 : Int) + (z1 : Int) / 65536) = (z2 : Nat) := pop4 _ _ 65536 e2 l2
  have g6 : IntKind.u64.wrap ((z2 : Int) + (z2 : Int) / 4294967296) = (z3 : Nat) := pop4 _ _ 4294967296 e3 l3
  have g7 := pop5 z3
  rw [← e4]
  change IntKind.u64.wrap _ = ((Ecc.F 8 x : Nat) : Int) at g2
  clear e1 e2 e3 e4 l1 l2 l3
  generalize Ecc.st3 8 (Ecc.F 8 x) = y at g3 g4
  generalize Ecc.F 8 x = f at g2 g3
  generalize Ecc.st1 8 x = s at g1 g2
  go_enter Try.func75, Try.ntmps75
  go_wp2
  go_ret
  exact ⟨rfl, rfl⟩
set_option maxRecDepth 100000 in
theorem c37y (p : Nat) (w : World) (h3 : 3 ≤ p) (h39 : p < 39) (h : Ecc.chkB p = true) :
    Calls Try.prog 59 #[.int .i64 p] w fun e w' => e = .returned (.bool true) ∧ w = w' := by
  rcases (chkB_of p).1 h with h | h | h | h | h | h | h <;> subst h <;> first
    | omega
    | (go_enter Try.func59, Try.ntmps59; go_wp2; go_ret; exact ⟨rfl, rfl⟩)
theorem mask39 (x : Nat) (hx : x < 18446744073709551616) : bits .and .u64 (x : Int) 549755813887 = ((x % 2 ^ 39 : Nat) : Int) := by
  rw [show (549755813887 : Int) = ((549755813887 : Nat) : Int) from rfl, and64 _ _ hx (by decide), show (549755813887 : Nat) = 2 ^ 39 - 1 from rfl, Nat.and_two_pow_sub_one_eq_mod]
theorem and1 (n : Nat) (h : n ≤ 64) : bits .and .i64 (n : Int) 1 = ((n % 2 : Nat) : Int) := by
  rw [show (1 : Int) = ((1 : Nat) : Int) from rfl, i64_and _ _ (by omega) (by decide), show (1 : Nat) = 2 ^ 1 - 1 from rfl, Nat.and_two_pow_sub_one_eq_mod]
theorem par_ones (x : Nat) : Ecc.ones 64 (x % 2 ^ 39) % 2 = Ecc.par x := by
  rw [show (64 : Nat) = 39 + 25 from rfl, Ecc.ones_high 39 25 _ (Nat.mod_lt _ (Nat.two_pow_pos 39)), Ecc.ones_mod, Ecc.par, Ecc.xf1_ones]
theorem c38 (x : Nat) (w : World) (hx : x < 18446744073709551616) :
    Calls Try.prog 61 #[.int .u64 x] w fun e w' => e = .returned (.int .i64 (Ecc.par x : Nat)) ∧ w = w' := by
  have h1 := mask39 x hx
  have h2 := and1 (Ecc.ones 64 (x % 2 ^ 39)) (Ecc.ones_le 64 _)
  have h3 : x % 2 ^ 39 < 18446744073709551616 := by omega
  rw [par_ones] at h2
  generalize x % 2 ^ 39 = y at h1 h2 h3
  go_enter Try.func61, Try.ntmps61
  go_wp2_with (go_at_call 75; refine (c43 _ _ (by assumption)).mono ?_; rintro e w' ⟨rfl, rfl⟩)
  go_ret
  exact ⟨rfl, rfl⟩
end Go.Proofs.Ytdboplkgnnidcaa
