/- The walks of the six laws on the error-correcting code. -/
import Derived.Test.YtigefaacknlkoaaEccLives
set_option linter.unusedVariables false
namespace Go.Proofs.Ytigefaacknlkoaa
open Go.RowKit Go.Proofs.Num
theorem wf_u32 {a : Int} (h : (Lit.int .u32 a).wf = true) : ∃ n : Nat, n < 4294967296 ∧ a = n := by
  have h1 : IntKind.u32.min = 0 := rfl
  have h2 : IntKind.u32.max = 4294967295 := rfl
  simp only [Lit.wf, Bool.and_eq_true, decide_eq_true_eq] at h
  exact ⟨a.toNat, by omega, by omega⟩
theorem wf_u64 {a : Int} (h : (Lit.int .u64 a).wf = true) : ∃ n : Nat, n < 18446744073709551616 ∧ a = n := by
  have h1 : IntKind.u64.min = 0 := rfl
  have h2 : IntKind.u64.max = 18446744073709551615 := rfl
  simp only [Lit.wf, Bool.and_eq_true, decide_eq_true_eq] at h
  exact ⟨a.toNat, by omega, by omega⟩
theorem wf_u8 {a : Int} (h : (Lit.int .u8 a).wf = true) : ∃ n : Nat, n < 256 ∧ a = n := by
  have h1 : IntKind.u8.min = 0 := rfl
  have h2 : IntKind.u8.max = 255 := rfl
  simp only [Lit.wf, Bool.and_eq_true, decide_eq_true_eq] at h
  exact ⟨a.toNat, by omega, by omega⟩
set_option maxRecDepth 100000 in
theorem eccCodes_walk (a0 : Int) (w0 : (Lit.int .u32 a0).wf = true) (w : World) :
    Calls Try.prog 3 #[.int .u32 a0] w fun e w' => e = .returned (.bool true) ∧ Below w.heap.size w w' := by
  obtain ⟨x, hx, rfl⟩ := wf_u32 w0
  clear w0
  have hB := Below.refl w.heap.size w
  have k14 : ∀ w, Calls Try.prog 14 #[.int .u32 x] w fun e w' => e = .returned (.int .u64 (Ecc.enc x : Nat)) ∧ Below w.heap.size w w' := fun w => c14 x w hx
  have hl : Ecc.enc x < 18446744073709551616 := Nat.lt_trans (Ecc.enc_lt x) (by decide)
  have k15 : ∀ w, Calls Try.prog 15 #[.int .u64 (Ecc.enc x : Nat)] w fun e w' => e = .returned (.tuple #[.int .u32 x, .int .i64 0]) ∧ Below w.heap.size w w' := fun w => by
    have h := c15 (Ecc.enc x) w hl; rw [Ecc.dec_enc x hx] at h; exact h
  have k16 : ∀ w, Calls Try.prog 16 #[.int .u64 (Ecc.enc x : Nat)] w fun e w' => e = .returned (.tuple #[.int .u64 (Ecc.enc x : Nat), .int .i64 0]) ∧ Below w.heap.size w w' := fun w => by
    have h := c16 (Ecc.enc x) w hl; rw [Ecc.rep_enc x hx] at h; exact h
  have k18 : ∀ w, Calls Try.prog 18 #[.int .u64 (Ecc.enc x : Nat)] w fun e w' => e = .returned (.int .i64 0) ∧ Below w.heap.size w w' := fun w => by
    have h := c18 (Ecc.enc x) w hl; rw [Ecc.syn_enc x hx] at h; exact h
  have k17 : ∀ w, Calls Try.prog 17 #[.int .u32 x] w fun e w' => e = .returned (.int .u64 (Ecc.enc x : Nat)) ∧ w = w' := fun w => c17 x w
  have he : (((Ecc.enc x : Nat) : Int) / 549755813888 == 0) = true := by
    have : Ecc.enc x < 549755813888 := Ecc.enc_lt x
    simp; omega
  have k14 := hid k14
  have k15 := hid k15
  have k16 := hid k16
  have k17 := hid k17
  have k18 := hid k18
  generalize Ecc.enc x = y at *
  go_enter Try.func3, Try.ntmps3
  go_wp2_with (first
    | (go_at_call 14; refine (from_below (by assumption) (k14.out _)).mono ?_; rintro e w1 ⟨rfl, h1⟩)
    | (go_at_call 15; refine (from_below (by assumption) (k15.out _)).mono ?_; rintro e w2 ⟨rfl, h2⟩)
    | (go_at_call 16; refine (from_below (by assumption) (k16.out _)).mono ?_; rintro e w3 ⟨rfl, h3⟩)
    | (go_at_call 17; refine (k17.out _).mono ?_; rintro e w4 ⟨rfl, rfl⟩)
    | (go_at_call 18; refine (from_below (by assumption) (k18.out _)).mono ?_; rintro e w5 ⟨rfl, h5⟩)
    | (go_at_call 19; refine (from_below (by assumption) (c19 _)).mono ?_; rintro e w6 ⟨rfl, h6⟩))
  go_ret
  exact ⟨rfl, by assumption⟩
set_option maxRecDepth 100000 in
theorem eccDecodes_walk (a0 : Int) (w0 : (Lit.int .u64 a0).wf = true) (w : World) :
    Calls Try.prog 4 #[.int .u64 a0] w fun e w' => e = .returned (.bool true) ∧ Below w.heap.size w w' := by
  obtain ⟨x, hx, rfl⟩ := wf_u64 w0
  clear w0
  have hB := Below.refl w.heap.size w
  have k15 := hid fun w => c15 x w hx
  have k16 := hid fun w => c16 x w hx
  have k18 := hid fun w => c18 x w hx
  have k20 := hid fun w => c20 x w hx
  have k21 := hid fun w => c21 x w hx
  have k22 := hid fun w => c22 x w
  generalize Ecc.dec x = d at *
  generalize Ecc.rep x = r at *
  generalize Ecc.syn x = s at *
  obtain ⟨d1, d2⟩ := d
  obtain ⟨r1, r2⟩ := r
  go_enter Try.func4, Try.ntmps4
  go_wp2_with (first
    | (go_at_call 15; refine (from_below (by assumption) (k15.out _)).mono ?_; rintro e w2 ⟨rfl, h2⟩)
    | (go_at_call 16; refine (from_below (by assumption) (k16.out _)).mono ?_; rintro e w3 ⟨rfl, h3⟩)
    | (go_at_call 20; refine (k20.out _).mono ?_; rintro e w4 ⟨rfl, rfl⟩)
    | (go_at_call 21; refine (k21.out _).mono ?_; rintro e w4 ⟨rfl, rfl⟩)
    | (go_at_call 22; refine (k22.out _).mono ?_; rintro e w4 ⟨rfl, rfl⟩)
    | (go_at_call 18; refine (from_below (by assumption) (k18.out _)).mono ?_; rintro e w5 ⟨rfl, h5⟩)
    | (go_at_call 19; refine (from_below (by assumption) (c19 _)).mono ?_; rintro e w6 ⟨rfl, h6⟩))
  go_ret
  exact ⟨rfl, by assumption⟩
set_option maxRecDepth 100000 in
theorem eccFlips_walk (a0 : Int) (a1 : Int) (w0 : (Lit.int .u64 a0).wf = true) (w1 : (Lit.int .i64 a1).wf = true) (w : World) :
    Calls Try.prog 5 #[.int .u64 a0, .int .i64 a1] w fun e w' => e = .returned (.bool true) ∧ Below w.heap.size w w' := by
  obtain ⟨x, hx, rfl⟩ := wf_u64 w0
  clear w0 w1
  have hB := Below.refl w.heap.size w
  have k23 := hid fun w => c23 x a1 w hx
  have k24 := hid fun w => c24 x a1 w hx
  have j23 := hid fun w => c23 (Ecc.flp x a1) a1 w (Ecc.flp_lt x a1 hx)
  rw [Ecc.flp_flp] at j23
  generalize Ecc.flp x a1 = y at *
  go_enter Try.func5, Try.ntmps5
  go_wp2_with fail
  refine (k23.out _).mono ?_; rintro e w4 ⟨rfl, rfl⟩
  go_wp2_with fail
  refine (k24.out _).mono ?_; rintro e w4 ⟨rfl, rfl⟩
  go_wp2_with fail
  refine (j23.out _).mono ?_; rintro e w4 ⟨rfl, rfl⟩
  go_wp2_with fail
  refine (from_below (by assumption) (c19 _)).mono ?_; rintro e w6 ⟨rfl, h6⟩
  go_wp2_with fail
  go_ret
  exact ⟨rfl, by assumption⟩
set_option maxRecDepth 100000 in
theorem eccLinear_walk (a0 : Int) (a1 : Int) (w0 : (Lit.int .u32 a0).wf = true) (w1 : (Lit.int .u32 a1).wf = true) (w : World) :
    Calls Try.prog 8 #[.int .u32 a0, .int .u32 a1] w fun e w' => e = .returned (.bool true) ∧ Below w.heap.size w w' := by
  obtain ⟨x, hx, rfl⟩ := wf_u32 w0
  obtain ⟨y, hy, rfl⟩ := wf_u32 w1
  clear w0 w1
  have hB := Below.refl w.heap.size w
  have e1 := u32_xor_nat x y hx hy
  have hz : x ^^^ y < 4294967296 := Ecc.xor_lt (n := 32) hx hy
  have lx : Ecc.enc x < 18446744073709551616 := Nat.lt_trans (Ecc.enc_lt x) (by decide)
  have ly : Ecc.enc y < 18446744073709551616 := Nat.lt_trans (Ecc.enc_lt y) (by decide)
  have e2 := u64_xor_nat _ _ lx ly
  have k1 := hid fun w => c14 (x ^^^ y) w hz
  have k2 := hid fun w => c14 x w hx
  have k3 := hid fun w => c14 y w hy
  rw [Ecc.enc_lin] at k1
  generalize Ecc.enc x = p at *
  generalize Ecc.enc y = q at *
  generalize p ^^^ q = r at *
  generalize x ^^^ y = z at *
  go_enter Try.func8, Try.ntmps8
  go_wp2_with fail
  refine (from_below (by assumption) (k1.out _)).mono ?_; rintro e w1 ⟨rfl, h1⟩
  clear hB
  go_wp2_with fail
  refine (from_below (by assumption) (k2.out _)).mono ?_; rintro e w2 ⟨rfl, h2⟩
  clear h1
  go_wp2_with fail
  refine (from_below (by assumption) (k3.out _)).mono ?_; rintro e w3 ⟨rfl, h3⟩
  clear h2
  go_wp2_with fail
  refine (from_below (by assumption) (c19 _)).mono ?_; rintro e w6 ⟨rfl, h6⟩
  go_wp2_with fail
  go_ret
  exact ⟨rfl, by assumption⟩
set_option maxRecDepth 100000 in
theorem eccDistance_walk (a0 : Int) (a1 : Int) (w0 : (Lit.int .u32 a0).wf = true) (w1 : (Lit.int .u32 a1).wf = true) (w : World) :
    Calls Try.prog 7 #[.int .u32 a0, .int .u32 a1] w fun e w' => e = .returned (.bool true) ∧ Below w.heap.size w w' := by
  obtain ⟨x, hx, rfl⟩ := wf_u32 w0
  obtain ⟨y, hy, rfl⟩ := wf_u32 w1
  clear w0 w1
  have hB := Below.refl w.heap.size w
  by_cases hxy : x = y
  · subst hxy
    clear hx hy
    go_enter Try.func7, Try.ntmps7
    go_wp2_with (go_at_call 19; refine (from_below (by assumption) (c19 _)).mono ?_; rintro e w6 ⟨rfl, h6⟩)
    go_ret
    exact ⟨rfl, by assumption⟩
  · have hne : ((x : Int) == (y : Int)) = false := by simp; omega
    have hd := Ecc.distance x y hx hy hxy
    have lx : Ecc.enc x < 18446744073709551616 := Nat.lt_trans (Ecc.enc_lt x) (by decide)
    have ly : Ecc.enc y < 18446744073709551616 := Nat.lt_trans (Ecc.enc_lt y) (by decide)
    have e2 := u64_xor_nat _ _ lx ly
    have k2 := hid fun w => c14 x w hx
    have k3 := hid fun w => c14 y w hy
    have k4 := hid fun w => c25 (Ecc.enc x ^^^ Ecc.enc y) w
    clear hxy
    generalize Ecc.enc x = p at *
    generalize Ecc.enc y = q at *
    generalize p ^^^ q = r at *
    generalize Ecc.ones 64 r = n at *
    have hd2 : decide (4 ≤ (n : Int)) = true := by simp; omega
    clear hd lx ly
    go_enter Try.func7, Try.ntmps7
    go_wp2_with fail
    refine (from_below (by assumption) (k2.out _)).mono ?_; rintro e w2 ⟨rfl, h2⟩
    clear hB
    go_wp2_with fail
    refine (from_below (by assumption) (k3.out _)).mono ?_; rintro e w3 ⟨rfl, h3⟩
    clear h2
    go_wp2_with fail
    refine (k4.out _).mono ?_; rintro e w3 ⟨rfl, rfl⟩
    go_wp2_with fail
    refine (from_below (by assumption) (c19 _)).mono ?_; rintro e w6 ⟨rfl, h6⟩
    go_wp2_with fail
    go_ret
    exact ⟨rfl, by assumption⟩
theorem flp_nat (y a : Nat) (h : a < 39) : Ecc.flp y (a : Int) = y ^^^ 2 ^ a := by
  rw [Ecc.flp_in y _ (by omega) (by omega)]; simp
set_option maxRecDepth 100000 in
theorem eccCorrects_walk (a0 : Int) (a1 : Int) (a2 : Int) (w0 : (Lit.int .u32 a0).wf = true) (w1 : (Lit.int .u8 a1).wf = true) (w2 : (Lit.int .u8 a2).wf = true) (w : World) :
    Calls Try.prog 6 #[.int .u32 a0, .int .u8 a1, .int .u8 a2] w fun e w' => e = .returned (.bool true) ∧ Below w.heap.size w w' := by
  obtain ⟨x, hx, rfl⟩ := wf_u32 w0
  obtain ⟨i, hi, rfl⟩ := wf_u8 w1
  obtain ⟨k, hk, rfl⟩ := wf_u8 w2
  clear w0 w1 w2
  have hB := Below.refl w.heap.size w
  have ei : (i : Int).tmod 39 = ((i % 39 : Nat) : Int) := by rw [Int.tmod_eq_emod_of_nonneg (by omega)]; simp
  have ek : (k : Int).tmod 39 = ((k % 39 : Nat) : Int) := by rw [Int.tmod_eq_emod_of_nonneg (by omega)]; simp
  have ha : i % 39 < 39 := Nat.mod_lt _ (by decide)
  have hb : k % 39 < 39 := Nat.mod_lt _ (by decide)
  clear hi hk
  have fi : (i : Int) % 39 = ((i % 39 : Nat) : Int) := by simp
  have fk : (k : Int) % 39 = ((k % 39 : Nat) : Int) := by simp
  generalize hai : i % 39 = a at *
  generalize hbk : k % 39 = b at *
  clear hai hbk
  have ly : Ecc.enc x < 18446744073709551616 := Nat.lt_trans (Ecc.enc_lt x) (by decide)
  have pa : 2 ^ a < 18446744073709551616 := Nat.lt_trans (Ecc.pow_lt_39 ha) (by decide)
  have pb : 2 ^ b < 18446744073709551616 := Nat.lt_trans (Ecc.pow_lt_39 hb) (by decide)
  have lo : Ecc.enc x ^^^ 2 ^ a < 18446744073709551616 := Ecc.xor_lt (n := 64) ly pa
  have lt : Ecc.enc x ^^^ 2 ^ a ^^^ 2 ^ b < 18446744073709551616 := Ecc.xor_lt (n := 64) lo pb
  have k14 := hid fun w => c14 x w hx
  have k1 : ∀ w, Calls Try.prog 23 #[.int .u64 (Ecc.enc x : Nat), .int .i64 a] w fun e w' => e = .returned (.int .u64 (Ecc.enc x ^^^ 2 ^ a : Nat)) ∧ w = w' := fun w => by
    have h := c23 (Ecc.enc x) a w ly; rw [flp_nat _ _ ha] at h; exact h
  have k2 : ∀ w, Calls Try.prog 15 #[.int .u64 (Ecc.enc x ^^^ 2 ^ a : Nat)] w fun e w' => e = .returned (.tuple #[.int .u32 x, .int .i64 1]) ∧ Below w.heap.size w w' := fun w => by
    have h := c15 _ w lo; rw [Ecc.dec_one x a hx ha] at h; exact h
  have k3 : ∀ w, Calls Try.prog 16 #[.int .u64 (Ecc.enc x ^^^ 2 ^ a : Nat)] w fun e w' => e = .returned (.tuple #[.int .u64 (Ecc.enc x : Nat), .int .i64 1]) ∧ Below w.heap.size w w' := fun w => by
    have h := c16 _ w lo; rw [Ecc.rep_one x a hx ha] at h; exact h
  have k4 : ∀ w, Calls Try.prog 23 #[.int .u64 (Ecc.enc x ^^^ 2 ^ a : Nat), .int .i64 b] w fun e w' => e = .returned (.int .u64 (Ecc.enc x ^^^ 2 ^ a ^^^ 2 ^ b : Nat)) ∧ w = w' := fun w => by
    have h := c23 _ b w lo; rw [flp_nat _ _ hb] at h; exact h
  have k5 : a ≠ b → ∀ w, Calls Try.prog 15 #[.int .u64 (Ecc.enc x ^^^ 2 ^ a ^^^ 2 ^ b : Nat)] w fun e w' => e = .returned (.tuple #[.int .u32 0, .int .i64 2]) ∧ Below w.heap.size w w' := fun hn w => by
    have h := c15 _ w lt; rw [Ecc.dec_two x a b hx ha hb hn] at h; exact h
  have k6 : a ≠ b → ∀ w, Calls Try.prog 16 #[.int .u64 (Ecc.enc x ^^^ 2 ^ a ^^^ 2 ^ b : Nat)] w fun e w' => e = .returned (.tuple #[.int .u64 (Ecc.enc x ^^^ 2 ^ a ^^^ 2 ^ b : Nat), .int .i64 2]) ∧ Below w.heap.size w w' := fun hn w => by
    have h := c16 _ w lt; rw [Ecc.rep_two x a b hx ha hb hn] at h; exact h
  have k1 := hid k1
  have k2 := hid k2
  have k3 := hid k3
  have k4 := hid k4
  have k5 := hid k5
  have k6 := hid k6
  clear ly pa pb lo lt
  generalize Ecc.enc x ^^^ 2 ^ a ^^^ 2 ^ b = t at *
  generalize Ecc.enc x ^^^ 2 ^ a = o at *
  generalize Ecc.enc x = y at *
  by_cases hab : a = b
  · subst hab
    go_enter Try.func6, Try.ntmps6
    go_wp2_with fail
    refine (from_below (by assumption) (k14.out _)).mono ?_; rintro e w1 ⟨rfl, h1⟩
    clear hB
    go_wp2_with fail
    refine (k1.out _).mono ?_; rintro e w2 ⟨rfl, rfl⟩
    go_wp2_with fail
    refine (from_below (by assumption) (k2.out _)).mono ?_; rintro e w3 ⟨rfl, h3⟩
    clear h1
    go_wp2_with fail
    refine (from_below (by assumption) (k3.out _)).mono ?_; rintro e w4 ⟨rfl, h4⟩
    clear h3
    go_wp2_with fail
    refine (from_below (by assumption) (c19 _)).mono ?_; rintro e w6 ⟨rfl, h6⟩
    go_wp2_with fail
    go_ret
    exact ⟨rfl, by assumption⟩
  · have hne : ((a : Int) == (b : Int)) = false := by simp; omega
    have j5 := hid (k5.out hab)
    have j6 := hid (k6.out hab)
    clear hab k5 k6
    go_enter Try.func6, Try.ntmps6
    go_wp2_with fail
    refine (from_below (by assumption) (k14.out _)).mono ?_; rintro e w1 ⟨rfl, h1⟩
    clear hB
    go_wp2_with fail
    refine (k1.out _).mono ?_; rintro e w2 ⟨rfl, rfl⟩
    go_wp2_with fail
    refine (from_below (by assumption) (k2.out _)).mono ?_; rintro e w3 ⟨rfl, h3⟩
    clear h1
    go_wp2_with fail
    refine (from_below (by assumption) (k3.out _)).mono ?_; rintro e w4 ⟨rfl, h4⟩
    clear h3
    go_wp2_with fail
    refine (k4.out _).mono ?_; rintro e w2 ⟨rfl, rfl⟩
    go_wp2_with fail
    refine (from_below (by assumption) (j5.out _)).mono ?_; rintro e w7 ⟨rfl, h7⟩
    clear h4
    go_wp2_with fail
    refine (from_below (by assumption) (j6.out _)).mono ?_; rintro e w8 ⟨rfl, h8⟩
    clear h7
    go_wp2_with fail
    refine (from_below (by assumption) (c19 _)).mono ?_; rintro e w6 ⟨rfl, h6⟩
    go_wp2_with fail
    go_ret
    exact ⟨rfl, by assumption⟩
end Go.Proofs.Ytigefaacknlkoaa
