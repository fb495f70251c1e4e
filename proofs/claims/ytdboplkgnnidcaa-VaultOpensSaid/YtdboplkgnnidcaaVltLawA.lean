/- The law VaultOpens: its walk. -/
import Derived.Test.YtdboplkgnnidcaaVltAwake
set_option linter.unusedVariables false
set_option linter.unusedSimpArgs false
namespace Go.Proofs.Ytdboplkgnnidcaa
open Go.RowKit Go.Proofs.Num
set_option maxRecDepth 100000 in
theorem opens_bad (w : World) (m : Nat) (a n : Int) (hm1 : 1 ≤ m) (hm2 : m ≤ 2000) (ha0 : -9223372036854775808 ≤ a) (ha1 : a ≤ 9223372036854775807) (hn0 : -9223372036854775808 ≤ n) (hn1 : n ≤ 9223372036854775807)
    (h : a < 0 ∨ n < 8 ∨ (m : Int) - a < n) :
    Calls Try.prog 7 #[.int .i64 m, .int .i64 a, .int .i64 n] w fun e w' => e = .returned (.bool true) ∧ Below w.heap.size w w' := by
  have hC : ∀ w1 (p : Nat), Sts w [wordP p 0 (List.replicate m 0)] w1 → Calls Try.prog 28 #[.pointer (some ⟨p, 0, none⟩), .int .i64 a, .int .i64 n] w1 fun e w' => e = .returned (.tuple #[.pointer none, .int .i64 1]) ∧ Sts w [wordP p 0 (List.replicate m 0)] w' :=
    fun w1 p hs => cOpenBad stab0 p 0 (List.replicate m 0) (by decide) (by simp; omega) hs a n ha0 ha1 hn1 (by simpa using h)
  have HC := hid hC
  clear hC
  have h' : a < 0 ∨ (0 ≤ a ∧ (m : Int) < a) ∨ (0 ≤ a ∧ a ≤ m ∧ n < 8) ∨ (0 ≤ a ∧ a ≤ m ∧ 8 ≤ n ∧ (m : Int) - a < n) := by omega
  clear h
  have hd1 : decide ((m : Int) < 1) = false := decide_eq_false (by omega)
  have hd2 : decide (2000 < (m : Int)) = false := decide_eq_false (by omega)
  rcases h' with h | ⟨h, h2⟩ | ⟨h, h2, h3⟩ | ⟨h, h2, h3, h4⟩
  all_goals
    go_enter Try.func7, Try.ntmps7
    go_wp2_with fail
    refine (cAwake w).mono ?_
    rintro e w1 ⟨rfl, hb1⟩
    have H1 := hid ((Sts.nil w).quiet stab0 hb1).withEmp
    clear hb1
    go_wp2_with fail
    refine (Sts.call stab0 H1.out (wNew m (by omega))).mono ?_
    rintro e w2 ⟨p, rfl, h2'⟩
    have H2 : Hid (Sts w [wordP p 0 (List.replicate m 0)] w2) := hid (h2'.weaken (fun F h => h.word))
    clear h2' H1
    go_wp2_with fail
    refine (HC.out w2 p H2.out).mono ?_
    rintro e w3 ⟨rfl, h3'⟩
    have H3 := hid h3'
    clear h3' H2
    go_wp2_with fail
    refine (cOpenNil w3 a n).mono ?_
    rintro e w4 ⟨rfl, rfl⟩
    go_wp2_with fail
    go_ret
    refine ⟨?_, H3.out.below⟩
    first
      | rfl
      | (refine ret_bool ?_; simp; omega)
set_option maxRecDepth 100000 in
theorem opens_ok (w : World) (m a n : Nat) (hm1 : 1 ≤ m) (hm2 : m ≤ 2000) (h8 : 8 ≤ n) (h : a + n ≤ m) :
    Calls Try.prog 7 #[.int .i64 m, .int .i64 a, .int .i64 n] w fun e w' => e = .returned (.bool true) ∧ Below w.heap.size w w' := by
  have hC : ∀ w1 (p : Nat), Sts w [wordP p 0 (List.replicate m 0)] w1 → Calls Try.prog 28 #[.pointer (some ⟨p, 0, none⟩), .int .i64 a, .int .i64 n] w1 (OpenEnd w p 0 a (n / 2) (List.replicate m 0) []) :=
    fun w1 p hs => cOpen stab0 p 0 (List.replicate m 0) (by decide) (by simp; omega) hs a n h8 (by simpa using h)
  have HC := hid hC
  clear hC
  have hd1 : decide ((m : Int) < 1) = false := decide_eq_false (by omega)
  have hd2 : decide (2000 < (m : Int)) = false := decide_eq_false (by omega)
  go_enter Try.func7, Try.ntmps7
  go_wp2_with fail
  refine (cAwake w).mono ?_
  rintro e w1 ⟨rfl, hb1⟩
  have H1 := hid ((Sts.nil w).quiet stab0 hb1).withEmp
  clear hb1
  go_wp2_with fail
  refine (Sts.call stab0 H1.out (wNew m (by omega))).mono ?_
  rintro e w2 ⟨p, rfl, h2'⟩
  have H2 : Hid (Sts w [wordP p 0 (List.replicate m 0)] w2) := hid (h2'.weaken (fun F h => h.word))
  clear h2' H1
  go_wp2_with fail
  refine (HC.out w2 p H2.out).mono ?_
  rintro e w3 ⟨q, rfl, h3'⟩
  have H3 := hid h3'
  clear h3' H2
  go_wp2_with fail
  refine (cOpenNil w3 a n).mono ?_
  rintro e w4 ⟨rfl, rfl⟩
  go_wp2_with fail
  go_ret
  exact ⟨rfl, H3.out.below⟩
set_option maxRecDepth 100000 in
theorem opens_few (w : World) (z a n : Int) (h : z < 1 ∨ 2000 < z) :
    Calls Try.prog 7 #[.int .i64 z, .int .i64 a, .int .i64 n] w fun e w' => e = .returned (.bool true) ∧ Below w.heap.size w w' := by
  have h' : z < 1 ∨ 1 ≤ z ∧ 2000 < z := by omega
  rcases h' with h | ⟨h, h2⟩
  all_goals
    go_enter Try.func7, Try.ntmps7
    go_wp2_with fail
    refine (cAwake w).mono ?_
    rintro e w1 ⟨rfl, hb1⟩
    have H1 := hid hb1
    clear hb1
    go_wp2_with fail
    go_ret
    exact ⟨rfl, H1.out⟩
theorem opens (w : World) (z a n : Int) (ha : -9223372036854775808 ≤ a ∧ a < 9223372036854775808) (hn : -9223372036854775808 ≤ n ∧ n < 9223372036854775808) :
    Calls Try.prog 7 #[.int .i64 z, .int .i64 a, .int .i64 n] w fun e w' => e = .returned (.bool true) ∧ Below w.heap.size w w' := by
  by_cases hz : z < 1 ∨ 2000 < z
  · exact opens_few w z a n hz
  · obtain ⟨m, rfl⟩ : ∃ m : Nat, z = m := ⟨z.toNat, by omega⟩
    by_cases h : a < 0 ∨ n < 8 ∨ (m : Int) - a < n
    · exact opens_bad w m a n (by omega) (by omega) ha.1 (by omega) hn.1 (by omega) h
    · obtain ⟨a', rfl⟩ : ∃ m : Nat, a = m := ⟨a.toNat, by omega⟩
      obtain ⟨n', rfl⟩ : ∃ m : Nat, n = m := ⟨n.toNat, by omega⟩
      exact opens_ok w m a' n' (by omega) (by omega) (by omega) (by omega)
end Go.Proofs.Ytdboplkgnnidcaa
