/- Whether reports can be sent. Whether a configuration of the ground segment is valid. The station's receiving part when it is new. -/
import Derived.Test.YtnklmadmenkdoaaGreatQLdE
import Derived.Test.YtnklmadmenkdoaaGreatQSnrA
import Derived.Test.YtnklmadmenkdoaaGreatQStr
set_option linter.unusedVariables false
set_option linter.unusedSimpArgs false
namespace Go.Proofs.YtnklmadmenkdoaaGreat
open Go.RowKit Go.Proofs.Num Go.ChangeShapes
def RightPost (w : World) (S : List RepA) (e : Ending) (w' : World) : Prop := ∃ b, e = .returned (.bool b) ∧ Below w.heap.size w w' ∧ (b = true → S.length ≤ 15 ∧ ∀ x ∈ S, x.ok)
set_option maxRecDepth 100000 in
set_option maxHeartbeats 16000000 in
theorem cRight (w : World) (v : Value) (S : List RepA) (hS : RepsAt w v S) :
    Calls Tryz.prog 18 #[v] w (RightPost w S) := by
  obtain ⟨aa, acap, rfl, hcap, hX⟩ := hS
  have hu : @Go.yielded.match_1 (fun _ => Option Bool) (some undef) (fun b => some b) (fun _ => none) = none := rfl
  by_cases hbig : 15 < S.length
  · have d1 : decide (15 < ((S.length : Nat) : Int)) = true := decide_eq_true (by omega)
    clear hX hcap hbig
    go_enter Tryz.func18, Tryz.ntmps18
    go_wp2_with fail
    go_ret
    exact ⟨false, rfl, Below.refl _ _, by intro h; cases h⟩
  have d1 : decide (15 < ((S.length : Nat) : Int)) = false := decide_eq_false (by omega)
  have HX := hid hX
  have H15 : Hid (S.length ≤ 15) := hid (by omega)
  clear hX hcap hbig
  go_enter Tryz.func18, Tryz.ntmps18
  go_wp2_with fail
  clear d1
  go_loopw [3] (fun i wr => ∃ k, k ≤ S.length ∧ i = .int .i64 (k : Int) ∧ Below w.heap.size w wr ∧ ∀ j (hj : j < S.length), j < k → S[j].ok) (fun i _ => S.length - (intOf i).toNat)
  case atStart => exact ⟨0, Nat.zero_le _, rfl, Below.refl _ _, fun j _ h => absurd h (Nat.not_lt_zero _)⟩
  case round =>
    obtain ⟨k, hk, rfl, hb, hall⟩ := hrel
    by_cases hlt : k < S.length
    · obtain ⟨ab, aoff, cs, rfl, hab, hcl, hcell, hE⟩ := HX.out k hlt
      obtain ⟨x, hx⟩ : ∃ x, x = S[k] := ⟨_, rfl⟩
      rw [← hx] at hE
      obtain ⟨rfl, hD, hnl⟩ := hE
      have HREL := hid (show (x.a = 1 ∨ x.a = 2 ∨ x.a = 3 ∨ x.a = 5) → (0 ≤ x.c ∧ x.c ≤ 16383) → (0 ≤ x.t ∧ x.t < 1099511627776) → (1 ≤ x.d.length ∧ x.d.length ≤ 100) → (x.a = 1 → Ver.ok x.s x.n x.st x.co = true) → ∀ j (hj : j < S.length), j < k + 1 → S[j].ok from fun h1 h2 h3 h4 h5 j hj hjk => by
        by_cases e : j = k
        · subst e
          rw [← hx]
          exact ⟨h1, h2, h3, h4, h5⟩
        · exact hall j hj (by omega))
      have q0 : wr.cell? ⟨ab, aoff + k * 8, none⟩ = some (.int .i64 x.a) := (hb.cell hab).trans (hcell 0 (by simp))
      have q1 : wr.cell? ⟨ab, aoff + k * 8 + 1, none⟩ = some (.int .i64 x.c) := (hb.cell hab).trans (hcell 1 (by simp))
      have q2 : wr.cell? ⟨ab, aoff + k * 8 + 2, none⟩ = some (.int .i64 x.t) := (hb.cell hab).trans (hcell 2 (by simp))
      have q3 : wr.cell? ⟨ab, aoff + k * 8 + 3, none⟩ = some (.int .i64 x.s) := (hb.cell hab).trans (hcell 3 (by simp))
      have q4 : wr.cell? ⟨ab, aoff + k * 8 + 4, none⟩ = some (.int .i64 x.n) := (hb.cell hab).trans (hcell 4 (by simp))
      have q5 : wr.cell? ⟨ab, aoff + k * 8 + 5, none⟩ = some (.int .i64 x.st) := (hb.cell hab).trans (hcell 5 (by simp))
      have q6 : wr.cell? ⟨ab, aoff + k * 8 + 6, none⟩ = some (.int .i64 x.co) := (hb.cell hab).trans (hcell 6 (by simp))
      have q7 : wr.cell? ⟨ab, aoff + k * 8 + 7, none⟩ = some (.slice x.da x.d.length x.dc) := (hb.cell hab).trans (hcell 7 (by simp))
      clear hcell hD hnl hx
      obtain ⟨a, c, t, s, n, st, co, da, dc, dd⟩ := x
      obtain ⟨m, hm⟩ : ∃ m, m = dd.length := ⟨_, rfl⟩
      simp only at q0 q1 q2 q3 q4 q5 q6 q7 HREL
      rw [← hm] at q7 HREL
      clear hm
      have HB1 : Hid (Below w.heap.size w (wr.alloc (.cells #[.int .i64 a, .int .i64 c, .int .i64 t, .int .i64 s, .int .i64 n, .int .i64 st, .int .i64 co, .slice da m dc] 63))) := hid (hb.alloc hb.size _)
      have HK1 : Hid (k + 1 ≤ S.length) := hid hlt
      have HE8 : Hid (wrap64 ((k : Int) + 1) = ((k + 1 : Nat) : Int)) := hid (by have := H15.out; clear q0 q1 q2 q3 q4 q5 q6 q7; unfold wrap64; omega)
      have p0 : (0 : Int) ≤ (k : Int) := Int.natCast_nonneg _
      have p1 : (k : Int) < ((S.length : Nat) : Int) := by omega
      clear hb hall hk hlt hab hcl
      by_cases ha : a = 1
      · have a1 : (a != 1) = false := by rw [bne_eq_false_iff_eq]; exact ha
        have e1 : (a == 1) = true := by rw [beq_iff_eq]; exact ha
        have HA := hid ha
        clear ha
        by_cases b0 : c < 0
        · have d0 : decide (c < 0) = true := decide_eq_true b0
          clear b0
          clear HREL
          go_wp2_with fail
          go_ret
          exact ⟨false, rfl, HB1.out, by intro h; cases h⟩
        have d0 : decide (c < 0) = false := decide_eq_false b0
        have B0 := hid b0
        clear b0
        by_cases b1 : 16383 < c
        · have d1 : decide (16383 < c) = true := decide_eq_true b1
          clear b1
          clear HREL
          go_wp2_with fail
          go_ret
          exact ⟨false, rfl, HB1.out, by intro h; cases h⟩
        have d1 : decide (16383 < c) = false := decide_eq_false b1
        have B1 := hid b1
        clear b1
        by_cases b2 : t < 0
        · have d2 : decide (t < 0) = true := decide_eq_true b2
          clear b2
          clear HREL
          go_wp2_with fail
          go_ret
          exact ⟨false, rfl, HB1.out, by intro h; cases h⟩
        have d2 : decide (t < 0) = false := decide_eq_false b2
        have B2 := hid b2
        clear b2
        by_cases b3 : 1099511627776 ≤ t
        · have d3 : decide (1099511627776 ≤ t) = true := decide_eq_true b3
          clear b3
          clear HREL
          go_wp2_with fail
          go_ret
          exact ⟨false, rfl, HB1.out, by intro h; cases h⟩
        have d3 : decide (1099511627776 ≤ t) = false := decide_eq_false b3
        have B3 := hid b3
        clear b3
        by_cases b4 : (m : Int) < 1
        · have d4 : decide ((m : Int) < 1) = true := decide_eq_true b4
          clear b4
          clear HREL
          go_wp2_with fail
          go_ret
          exact ⟨false, rfl, HB1.out, by intro h; cases h⟩
        have d4 : decide ((m : Int) < 1) = false := decide_eq_false b4
        have B4 := hid b4
        clear b4
        by_cases b5 : 100 < (m : Int)
        · have d5 : decide (100 < (m : Int)) = true := decide_eq_true b5
          clear b5
          clear HREL
          go_wp2_with fail
          go_ret
          exact ⟨false, rfl, HB1.out, by intro h; cases h⟩
        have d5 : decide (100 < (m : Int)) = false := decide_eq_false b5
        have B5 := hid b5
        clear b5
        cases hv : Ver.ok s n st co with
        | false =>
          have KV := hid (fun y => cVerValid y s n st co)
          rw [hv] at KV
          clear hv HREL
          go_wp2_with (go_at_call 67; refine (KV.out _).mono ?_; rintro e w2 ⟨rfl, h2⟩; have H2 := hid (HB1.out.trans (h2.mono HB1.out.size)); clear h2)
          go_ret
          exact ⟨false, rfl, H2.out, by intro h; cases h⟩
        | true =>
          have KV := hid (fun y => cVerValid y s n st co)
          rw [hv] at KV
          have HV := hid hv
          clear hv
          go_wp2_with (go_at_call 67; refine (KV.out _).mono ?_; rintro e w2 ⟨rfl, h2⟩; have H2 := hid (HB1.out.trans (h2.mono HB1.out.size)); clear h2)
          go_roundw
          case rel => exact ⟨k + 1, HK1.out, congrArg (Value.int .i64) HE8.out, H2.out, HREL.out (Or.inl HA.out) (by have h1 := B0.out; have h2 := B1.out; omega) (by have h1 := B2.out; have h2 := B3.out; omega) (by have h1 := B4.out; have h2 := B5.out; omega) (fun _ => HV.out)⟩
          case measure =>
            rw [HE8.out]
            have := HK1.out
            simp [intOf]
            omega
      have n1 := ha
      clear ha
      by_cases ha : a = 2
      · have a1 : (a != 1) = true := by rw [bne_iff_ne]; omega
        have a2 : (a != 2) = false := by rw [bne_eq_false_iff_eq]; exact ha
        have e1 : (a == 1) = false := beq_eq_false_iff_ne.2 (by omega)
        have HA := hid ha
        clear ha n1
        by_cases b0 : c < 0
        · have d0 : decide (c < 0) = true := decide_eq_true b0
          clear b0
          clear HREL
          go_wp2_with fail
          go_ret
          exact ⟨false, rfl, HB1.out, by intro h; cases h⟩
        have d0 : decide (c < 0) = false := decide_eq_false b0
        have B0 := hid b0
        clear b0
        by_cases b1 : 16383 < c
        · have d1 : decide (16383 < c) = true := decide_eq_true b1
          clear b1
          clear HREL
          go_wp2_with fail
          go_ret
          exact ⟨false, rfl, HB1.out, by intro h; cases h⟩
        have d1 : decide (16383 < c) = false := decide_eq_false b1
        have B1 := hid b1
        clear b1
        by_cases b2 : t < 0
        · have d2 : decide (t < 0) = true := decide_eq_true b2
          clear b2
          clear HREL
          go_wp2_with fail
          go_ret
          exact ⟨false, rfl, HB1.out, by intro h; cases h⟩
        have d2 : decide (t < 0) = false := decide_eq_false b2
        have B2 := hid b2
        clear b2
        by_cases b3 : 1099511627776 ≤ t
        · have d3 : decide (1099511627776 ≤ t) = true := decide_eq_true b3
          clear b3
          clear HREL
          go_wp2_with fail
          go_ret
          exact ⟨false, rfl, HB1.out, by intro h; cases h⟩
        have d3 : decide (1099511627776 ≤ t) = false := decide_eq_false b3
        have B3 := hid b3
        clear b3
        by_cases b4 : (m : Int) < 1
        · have d4 : decide ((m : Int) < 1) = true := decide_eq_true b4
          clear b4
          clear HREL
          go_wp2_with fail
          go_ret
          exact ⟨false, rfl, HB1.out, by intro h; cases h⟩
        have d4 : decide ((m : Int) < 1) = false := decide_eq_false b4
        have B4 := hid b4
        clear b4
        by_cases b5 : 100 < (m : Int)
        · have d5 : decide (100 < (m : Int)) = true := decide_eq_true b5
          clear b5
          clear HREL
          go_wp2_with fail
          go_ret
          exact ⟨false, rfl, HB1.out, by intro h; cases h⟩
        have d5 : decide (100 < (m : Int)) = false := decide_eq_false b5
        have B5 := hid b5
        clear b5
        go_wp2_with fail
        go_roundw
        case rel => exact ⟨k + 1, HK1.out, congrArg (Value.int .i64) HE8.out, HB1.out, HREL.out (Or.inr (Or.inl HA.out)) (by have h1 := B0.out; have h2 := B1.out; omega) (by have h1 := B2.out; have h2 := B3.out; omega) (by have h1 := B4.out; have h2 := B5.out; omega) (fun h => absurd (HA.out.symm.trans h) (by decide))⟩
        case measure =>
          rw [HE8.out]
          have := HK1.out
          simp [intOf]
          omega
      have n2 := ha
      clear ha
      by_cases ha : a = 3
      · have a1 : (a != 1) = true := by rw [bne_iff_ne]; omega
        have a2 : (a != 2) = true := by rw [bne_iff_ne]; omega
        have a3 : (a != 3) = false := by rw [bne_eq_false_iff_eq]; exact ha
        have e1 : (a == 1) = false := beq_eq_false_iff_ne.2 (by omega)
        have HA := hid ha
        clear ha n1 n2
        by_cases b0 : c < 0
        · have d0 : decide (c < 0) = true := decide_eq_true b0
          clear b0
          clear HREL
          go_wp2_with fail
          go_ret
          exact ⟨false, rfl, HB1.out, by intro h; cases h⟩
        have d0 : decide (c < 0) = false := decide_eq_false b0
        have B0 := hid b0
        clear b0
        by_cases b1 : 16383 < c
        · have d1 : decide (16383 < c) = true := decide_eq_true b1
          clear b1
          clear HREL
          go_wp2_with fail
          go_ret
          exact ⟨false, rfl, HB1.out, by intro h; cases h⟩
        have d1 : decide (16383 < c) = false := decide_eq_false b1
        have B1 := hid b1
        clear b1
        by_cases b2 : t < 0
        · have d2 : decide (t < 0) = true := decide_eq_true b2
          clear b2
          clear HREL
          go_wp2_with fail
          go_ret
          exact ⟨false, rfl, HB1.out, by intro h; cases h⟩
        have d2 : decide (t < 0) = false := decide_eq_false b2
        have B2 := hid b2
        clear b2
        by_cases b3 : 1099511627776 ≤ t
        · have d3 : decide (1099511627776 ≤ t) = true := decide_eq_true b3
          clear b3
          clear HREL
          go_wp2_with fail
          go_ret
          exact ⟨false, rfl, HB1.out, by intro h; cases h⟩
        have d3 : decide (1099511627776 ≤ t) = false := decide_eq_false b3
        have B3 := hid b3
        clear b3
        by_cases b4 : (m : Int) < 1
        · have d4 : decide ((m : Int) < 1) = true := decide_eq_true b4
          clear b4
          clear HREL
          go_wp2_with fail
          go_ret
          exact ⟨false, rfl, HB1.out, by intro h; cases h⟩
        have d4 : decide ((m : Int) < 1) = false := decide_eq_false b4
        have B4 := hid b4
        clear b4
        by_cases b5 : 100 < (m : Int)
        · have d5 : decide (100 < (m : Int)) = true := decide_eq_true b5
          clear b5
          clear HREL
          go_wp2_with fail
          go_ret
          exact ⟨false, rfl, HB1.out, by intro h; cases h⟩
        have d5 : decide (100 < (m : Int)) = false := decide_eq_false b5
        have B5 := hid b5
        clear b5
        go_wp2_with fail
        go_roundw
        case rel => exact ⟨k + 1, HK1.out, congrArg (Value.int .i64) HE8.out, HB1.out, HREL.out (Or.inr (Or.inr (Or.inl HA.out))) (by have h1 := B0.out; have h2 := B1.out; omega) (by have h1 := B2.out; have h2 := B3.out; omega) (by have h1 := B4.out; have h2 := B5.out; omega) (fun h => absurd (HA.out.symm.trans h) (by decide))⟩
        case measure =>
          rw [HE8.out]
          have := HK1.out
          simp [intOf]
          omega
      have n3 := ha
      clear ha
      by_cases ha : a = 5
      · have a1 : (a != 1) = true := by rw [bne_iff_ne]; omega
        have a2 : (a != 2) = true := by rw [bne_iff_ne]; omega
        have a3 : (a != 3) = true := by rw [bne_iff_ne]; omega
        have a5 : (a != 5) = false := by rw [bne_eq_false_iff_eq]; exact ha
        have e1 : (a == 1) = false := beq_eq_false_iff_ne.2 (by omega)
        have HA := hid ha
        clear ha n1 n2 n3
        by_cases b0 : c < 0
        · have d0 : decide (c < 0) = true := decide_eq_true b0
          clear b0
          clear HREL
          go_wp2_with fail
          go_ret
          exact ⟨false, rfl, HB1.out, by intro h; cases h⟩
        have d0 : decide (c < 0) = false := decide_eq_false b0
        have B0 := hid b0
        clear b0
        by_cases b1 : 16383 < c
        · have d1 : decide (16383 < c) = true := decide_eq_true b1
          clear b1
          clear HREL
          go_wp2_with fail
          go_ret
          exact ⟨false, rfl, HB1.out, by intro h; cases h⟩
        have d1 : decide (16383 < c) = false := decide_eq_false b1
        have B1 := hid b1
        clear b1
        by_cases b2 : t < 0
        · have d2 : decide (t < 0) = true := decide_eq_true b2
          clear b2
          clear HREL
          go_wp2_with fail
          go_ret
          exact ⟨false, rfl, HB1.out, by intro h; cases h⟩
        have d2 : decide (t < 0) = false := decide_eq_false b2
        have B2 := hid b2
        clear b2
        by_cases b3 : 1099511627776 ≤ t
        · have d3 : decide (1099511627776 ≤ t) = true := decide_eq_true b3
          clear b3
          clear HREL
          go_wp2_with fail
          go_ret
          exact ⟨false, rfl, HB1.out, by intro h; cases h⟩
        have d3 : decide (1099511627776 ≤ t) = false := decide_eq_false b3
        have B3 := hid b3
        clear b3
        by_cases b4 : (m : Int) < 1
        · have d4 : decide ((m : Int) < 1) = true := decide_eq_true b4
          clear b4
          clear HREL
          go_wp2_with fail
          go_ret
          exact ⟨false, rfl, HB1.out, by intro h; cases h⟩
        have d4 : decide ((m : Int) < 1) = false := decide_eq_false b4
        have B4 := hid b4
        clear b4
        by_cases b5 : 100 < (m : Int)
        · have d5 : decide (100 < (m : Int)) = true := decide_eq_true b5
          clear b5
          clear HREL
          go_wp2_with fail
          go_ret
          exact ⟨false, rfl, HB1.out, by intro h; cases h⟩
        have d5 : decide (100 < (m : Int)) = false := decide_eq_false b5
        have B5 := hid b5
        clear b5
        go_wp2_with fail
        go_roundw
        case rel => exact ⟨k + 1, HK1.out, congrArg (Value.int .i64) HE8.out, HB1.out, HREL.out (Or.inr (Or.inr (Or.inr HA.out))) (by have h1 := B0.out; have h2 := B1.out; omega) (by have h1 := B2.out; have h2 := B3.out; omega) (by have h1 := B4.out; have h2 := B5.out; omega) (fun h => absurd (HA.out.symm.trans h) (by decide))⟩
        case measure =>
          rw [HE8.out]
          have := HK1.out
          simp [intOf]
          omega
      have n5 := ha
      clear ha
      have a1 : (a != 1) = true := by rw [bne_iff_ne]; omega
      have a2 : (a != 2) = true := by rw [bne_iff_ne]; omega
      have a3 : (a != 3) = true := by rw [bne_iff_ne]; omega
      have a5 : (a != 5) = true := by rw [bne_iff_ne]; omega
      clear n1 n2 n3 n5
      clear HREL
      go_wp2_with fail
      go_ret
      exact ⟨false, rfl, HB1.out, by intro h; cases h⟩
    · obtain rfl : k = S.length := by omega
      have HB := hid hb
      have HALL := hid hall
      have dk : decide (((S.length : Nat) : Int) < ((S.length : Nat) : Int)) = false := decide_eq_false (by omega)
      clear hb hall hk hlt
      go_wp2_with fail
      go_ret
      refine ⟨true, rfl, HB.out, fun _ => ⟨H15.out, fun x hx => ?_⟩⟩
      obtain ⟨j, hj, rfl⟩ := List.mem_iff_getElem.1 hx
      exact HALL.out j hj hj
end Go.Proofs.YtnklmadmenkdoaaGreat
namespace Go.Proofs.YtnklmadmenkdoaaGreat
open Go.RowKit Go.Proofs.Num
set_option maxRecDepth 100000 in
theorem cWithinT (w : World) (n lo hi : Int) (h : lo ≤ n ∧ n ≤ hi) : Calls Tryz.prog 103 #[.int .i64 n, .int .i64 lo, .int .i64 hi] w fun e w' => e = .returned (.bool true) ∧ w = w' := by
  have d1 : decide (lo ≤ n) = true := decide_eq_true h.1
  have d2 : decide (n ≤ hi) = true := decide_eq_true h.2
  clear h
  go_enter Tryz.func103, Tryz.ntmps103
  go_wp2_with fail
  go_ret
  exact ⟨rfl, rfl⟩
section
variable {W w : World} {l : List HProp} (hl : ∀ B ∈ l, Stable B)
include hl
set_option maxRecDepth 100000 in
set_option maxHeartbeats 4000000 in
/-- A configuration whose numbers are in their ranges. -/
theorem cValidT (craft win size to re fc ft fr : Int) (hs : Sts W l w) (h1 : 0 ≤ craft ∧ craft ≤ 1023) (h2 : 1 ≤ win ∧ win ≤ 127) (h3 : 64 ≤ size ∧ size ≤ 1024) (h4 : 1 ≤ to ∧ to ≤ 1048576) (h5 : 1 ≤ re ∧ re ≤ 255) (h6 : 1 ≤ fc ∧ fc ≤ 512) (h7 : 1 ≤ ft ∧ ft ≤ 1048576) (h8 : 0 ≤ fr ∧ fr ≤ 255) :
    Calls Tryz.prog 37 #[.agg #[.int .i64 craft, .int .i64 win, .int .i64 size, .int .i64 to, .int .i64 re, .int .i64 fc, .int .i64 ft, .int .i64 fr]] w fun e w' => e = .returned (.bool true) ∧ Sts W l w' := by
  have HS := hid (hs.alloc hl (.cells #[.int .i64 craft, .int .i64 win, .int .i64 size, .int .i64 to, .int .i64 re, .int .i64 fc, .int .i64 ft, .int .i64 fr] 31))
  have HL := hid (stabC (blkP_stable w.heap.size (.cells #[.int .i64 craft, .int .i64 win, .int .i64 size, .int .i64 to, .int .i64 re, .int .i64 fc, .int .i64 ft, .int .i64 fr] 31 (0, 0))) hl)
  have k0 := (Sts.boxCell HS.out 0 _ rfl).1
  have k1 := (Sts.boxCell HS.out 1 _ rfl).1
  have k2 := (Sts.boxCell HS.out 2 _ rfl).1
  have k3 := (Sts.boxCell HS.out 3 _ rfl).1
  have k4 := (Sts.boxCell HS.out 4 _ rfl).1
  have k5 := (Sts.boxCell HS.out 5 _ rfl).1
  have k6 := (Sts.boxCell HS.out 6 _ rfl).1
  have k7 := (Sts.boxCell HS.out 7 _ rfl).1
  have H1 := hid h1
  have H2 := hid h2
  have H3 := hid h3
  have H4 := hid h4
  have H5 := hid h5
  have H6 := hid h6
  have H7 := hid h7
  have H8 := hid h8
  clear hs h1 h2 h3 h4 h5 h6 h7 h8
  go_enter Tryz.func37, Tryz.ntmps37
  go_wp2_with (first
    | (go_at_call 103; refine (cWithinT _ craft _ _ H1.out).mono ?_; rintro e w2 ⟨rfl, rfl⟩; clear H1)
    | (go_at_call 103; refine (cWithinT _ win _ _ H2.out).mono ?_; rintro e w2 ⟨rfl, rfl⟩; clear H2)
    | (go_at_call 103; refine (cWithinT _ size _ _ H3.out).mono ?_; rintro e w2 ⟨rfl, rfl⟩; clear H3)
    | (go_at_call 103; refine (cWithinT _ to _ _ H4.out).mono ?_; rintro e w2 ⟨rfl, rfl⟩; clear H4)
    | (go_at_call 103; refine (cWithinT _ re _ _ H5.out).mono ?_; rintro e w2 ⟨rfl, rfl⟩; clear H5)
    | (go_at_call 38; refine (cEntity HL.out fc ft fr HS.out H6.out H7.out H8.out).mono ?_; rintro e w3 ⟨c, m1, m2, m3, q, m, rfl, h⟩; have HX := hid (show Sts W l w3 from (h.tail.tail.tail.tail.tail.tail).tail); clear h))
  go_ret
  exact ⟨rfl, HX.out⟩
end
end Go.Proofs.YtnklmadmenkdoaaGreat
namespace Go.Proofs.YtnklmadmenkdoaaGreat
open Go.RowKit Go.Proofs.Num
/-- The blocks that a new receiving part leads to. -/
def recL (z : Int) (fi ar u0 u1 u2 : Nat) : List HProp :=
  [blkP u2 (.cells #[.bool true, .bool false, .bool false, .int .i64 0, .int .i64 0, .slice none 0 0] 302 (0, 0)), blkP u1 (.cells #[.bool true, .bool false, .bool false, .int .i64 0, .int .i64 0, .slice none 0 0] 302 (0, 0)), blkP u0 (.cells #[.bool true, .bool false, .bool false, .int .i64 0, .int .i64 0, .slice none 0 0] 302 (0, 0)), blkP ar (.cells #[.bool true, .slice none 0 0] 185 (0, 0)), blkP fi (.cells #[.int .i64 z, .int .i64 0, .slice none 0 0] 234 (0, 0))]
set_option maxRecDepth 100000 in
theorem sizeRec : ∀ w, (Go.sizeOf 112).run Tryz.prog w = .ok 7 w := fun w => by first | rfl | simp [go_sem] | kernel_rfl
set_option maxRecDepth 100000 in
theorem szUnp : ∀ w, (Go.sizeOf 108).run Tryz.prog w = .ok 1 w := fun w => by first | rfl | simp [go_sem] | kernel_rfl
set_option maxRecDepth 100000 in
theorem infoRec : (Tryz.prog.info? 112).map (·.size) = some 7 := by kernel_rfl
theorem ldRec {W w : World} {l : List HProp} {b : Nat} {x0 x1 x2 x3 x4 x5 x6 : Value} (h : Sts W (blkP b (.cells #[x0, x1, x2, x3, x4, x5, x6] 112 (0, 0)) :: l) w) : (loadVar 112 ⟨b, 0, none⟩).run Tryz.prog w = .ok (.agg #[x0, x1, x2, x3, x4, x5, x6]) w := by
  have hb : w.heap[b]? = some (.cells #[x0, x1, x2, x3, x4, x5, x6] 112 (0, 0)) := by obtain ⟨F, hF⟩ := h.head; exact hF.1
  exact run_loadVar_row (P := Tryz.prog) w b 112 112 #[x0, x1, x2, x3, x4, x5, x6] (0, 0) _ hb Tryz.underlying112 rfl (by rw [infoRec]; rfl)
section
variable {W w : World} {l : List HProp} (hl : ∀ B ∈ l, Stable B)
include hl
set_option maxRecDepth 100000 in
set_option maxHeartbeats 4000000 in
theorem cRecNew (z : Int) (t c : Option Addr) (hs : Sts W l w) (h1 : 1 ≤ z) (h2 : z ≤ 1024) :
    Calls Tryz.prog 39 #[.int .i64 z, .pointer t, .pointer c] w fun e w' => ∃ fi ar u0 u1 u2, e = .returned (.agg #[.pointer (some ⟨fi, 0, none⟩), .pointer (some ⟨u0, 0, none⟩), .pointer (some ⟨u1, 0, none⟩), .pointer (some ⟨u2, 0, none⟩), .pointer (some ⟨ar, 0, none⟩), .pointer t, .pointer c]) ∧ Sts W (recL z fi ar u0 u1 u2 ++ l) w' := by
  have H0 := hid (hs.alloc hl (.cells #[.pointer none, .pointer none, .pointer none, .pointer none, .pointer none, .pointer none, .pointer none] 112))
  have HL0 := hid (stabC (blkP_stable w.heap.size (.cells #[.pointer none, .pointer none, .pointer none, .pointer none, .pointer none, .pointer none, .pointer none] 112 (0, 0))) hl)
  clear hs
  go_enter Tryz.func39, Tryz.ntmps39
  go_wp2_with (first | (go_at_call 106; refine (cFinNew HL0.out H0.out z h1 h2).mono ?_; rintro e w2 ⟨fi, rfl, h⟩; have HF := hid h; clear h) | (go_at_call 34; refine (cArcNew (stabC (blkP_stable _ _) HL0.out) HF.out).mono ?_; rintro e w3 ⟨ar, rfl, h⟩; have HA := hid (h.alloc (stabC (blkP_stable _ _) (stabC (blkP_stable _ _) HL0.out)) (.cells #[.pointer none, .pointer none, .pointer none, .pointer none, .pointer none, .pointer none, .pointer none] 112)); clear h HF) | (refine wpList_aggS HA.out (stabC (blkP_stable _ _) (stabC (blkP_stable _ _) HL0.out)) rfl (.tmp 7) (.tmp 14) 112 rfl #[.pointer (some ⟨fi, 0, none⟩), .pointer none, .pointer none, .pointer none, .pointer (some ⟨ar, 0, none⟩), .pointer t, .pointer c] rfl rfl sizeRec rfl rfl ?_; intro w4 h4; have HB := hid h4; clear h4 HA))
  obtain ⟨rb, hrb⟩ : ∃ rb, rb = w3.heap.size := ⟨_, rfl⟩
  rw [← hrb] at HB ⊢
  have HLR := hid (show ∀ B ∈ blkP ar (.cells #[.bool true, .slice none 0 0] 185 (0, 0)) :: blkP fi (.cells #[.int .i64 z, .int .i64 0, .slice none 0 0] 234 (0, 0)) :: blkP w.heap.size (.cells #[.pointer none, .pointer none, .pointer none, .pointer none, .pointer none, .pointer none, .pointer none] 112 (0, 0)) :: l, Stable B from stabC (blkP_stable _ _) (stabC (blkP_stable _ _) HL0.out))
  clear hrb
  go_loopw [15] (fun i wr => (i = .int .i64 0 ∧ Sts W (blkP rb (.cells #[.pointer (some ⟨fi, 0, none⟩), .pointer none, .pointer none, .pointer none, .pointer (some ⟨ar, 0, none⟩), .pointer t, .pointer c] 112 (0, 0)) :: blkP ar (.cells #[.bool true, .slice none 0 0] 185 (0, 0)) :: blkP fi (.cells #[.int .i64 z, .int .i64 0, .slice none 0 0] 234 (0, 0)) :: blkP w.heap.size (.cells #[.pointer none, .pointer none, .pointer none, .pointer none, .pointer none, .pointer none, .pointer none] 112 (0, 0)) :: l) wr) ∨ (∃ a0, i = .int .i64 1 ∧ Sts W (blkP rb (.cells #[.pointer (some ⟨fi, 0, none⟩), .pointer (some ⟨a0, 0, none⟩), .pointer none, .pointer none, .pointer (some ⟨ar, 0, none⟩), .pointer t, .pointer c] 112 (0, 0)) :: blkP a0 (.cells #[.bool true, .bool false, .bool false, .int .i64 0, .int .i64 0, .slice none 0 0] 302 (0, 0)) :: blkP ar (.cells #[.bool true, .slice none 0 0] 185 (0, 0)) :: blkP fi (.cells #[.int .i64 z, .int .i64 0, .slice none 0 0] 234 (0, 0)) :: blkP w.heap.size (.cells #[.pointer none, .pointer none, .pointer none, .pointer none, .pointer none, .pointer none, .pointer none] 112 (0, 0)) :: l) wr) ∨ (∃ a0 a1, i = .int .i64 2 ∧ Sts W (blkP rb (.cells #[.pointer (some ⟨fi, 0, none⟩), .pointer (some ⟨a0, 0, none⟩), .pointer (some ⟨a1, 0, none⟩), .pointer none, .pointer (some ⟨ar, 0, none⟩), .pointer t, .pointer c] 112 (0, 0)) :: blkP a1 (.cells #[.bool true, .bool false, .bool false, .int .i64 0, .int .i64 0, .slice none 0 0] 302 (0, 0)) :: blkP a0 (.cells #[.bool true, .bool false, .bool false, .int .i64 0, .int .i64 0, .slice none 0 0] 302 (0, 0)) :: blkP ar (.cells #[.bool true, .slice none 0 0] 185 (0, 0)) :: blkP fi (.cells #[.int .i64 z, .int .i64 0, .slice none 0 0] 234 (0, 0)) :: blkP w.heap.size (.cells #[.pointer none, .pointer none, .pointer none, .pointer none, .pointer none, .pointer none, .pointer none] 112 (0, 0)) :: l) wr) ∨ (∃ a0 a1 a2, i = .int .i64 3 ∧ Sts W (blkP rb (.cells #[.pointer (some ⟨fi, 0, none⟩), .pointer (some ⟨a0, 0, none⟩), .pointer (some ⟨a1, 0, none⟩), .pointer (some ⟨a2, 0, none⟩), .pointer (some ⟨ar, 0, none⟩), .pointer t, .pointer c] 112 (0, 0)) :: blkP a2 (.cells #[.bool true, .bool false, .bool false, .int .i64 0, .int .i64 0, .slice none 0 0] 302 (0, 0)) :: blkP a1 (.cells #[.bool true, .bool false, .bool false, .int .i64 0, .int .i64 0, .slice none 0 0] 302 (0, 0)) :: blkP a0 (.cells #[.bool true, .bool false, .bool false, .int .i64 0, .int .i64 0, .slice none 0 0] 302 (0, 0)) :: blkP ar (.cells #[.bool true, .slice none 0 0] 185 (0, 0)) :: blkP fi (.cells #[.int .i64 z, .int .i64 0, .slice none 0 0] 234 (0, 0)) :: blkP w.heap.size (.cells #[.pointer none, .pointer none, .pointer none, .pointer none, .pointer none, .pointer none, .pointer none] 112 (0, 0)) :: l) wr)) (fun i _ => 3 - (intOf i).toNat)
  case atStart => exact Or.inl ⟨rfl, HB.out⟩
  case round =>
    clear HB
    rcases hrel with ⟨rfl, hS⟩ | ⟨a0, rfl, hS⟩ | ⟨a0, a1, rfl, hS⟩ | ⟨a0, a1, a2, rfl, hS⟩
    · have HS := hid hS
      clear hS
      go_wp2_with (first | (go_at_call 107; refine (cUnpNew (stabC (blkP_stable _ _) HLR.out) HS.out).mono ?_; rintro e w6 ⟨u, rfl, h⟩; have HU := hid h.swap; clear h) | (refine wpList_cellS HU.out (stabC (blkP_stable _ _) HLR.out) rfl (.tmp 21) (.tmp 19) 108 rfl 1 (.pointer (some ⟨u, 0, none⟩)) rfl rfl szUnp (show 1 < 7 by decide) rfl ?_; intro w7 h7; have H7 := hid h7; clear h7))
      go_roundw
      case rel => exact Or.inr (Or.inl ⟨u, rfl, H7.out⟩)
      case measure => (simp [intOf]; try omega)
    · have HS := hid hS
      clear hS
      go_wp2_with (first | (go_at_call 107; refine (cUnpNew (stabC (blkP_stable _ _) (stabC (blkP_stable _ _) HLR.out)) HS.out).mono ?_; rintro e w6 ⟨u, rfl, h⟩; have HU := hid h.swap; clear h) | (refine wpList_cellS HU.out (stabC (blkP_stable _ _) (stabC (blkP_stable _ _) HLR.out)) rfl (.tmp 21) (.tmp 19) 108 rfl 2 (.pointer (some ⟨u, 0, none⟩)) rfl rfl szUnp (show 2 < 7 by decide) rfl ?_; intro w7 h7; have H7 := hid h7; clear h7))
      go_roundw
      case rel => exact Or.inr (Or.inr (Or.inl ⟨a0, u, rfl, H7.out⟩))
      case measure => (simp [intOf]; try omega)
    · have HS := hid hS
      clear hS
      go_wp2_with (first | (go_at_call 107; refine (cUnpNew (stabC (blkP_stable _ _) (stabC (blkP_stable _ _) (stabC (blkP_stable _ _) HLR.out))) HS.out).mono ?_; rintro e w6 ⟨u, rfl, h⟩; have HU := hid h.swap; clear h) | (refine wpList_cellS HU.out (stabC (blkP_stable _ _) (stabC (blkP_stable _ _) (stabC (blkP_stable _ _) HLR.out))) rfl (.tmp 21) (.tmp 19) 108 rfl 3 (.pointer (some ⟨u, 0, none⟩)) rfl rfl szUnp (show 3 < 7 by decide) rfl ?_; intro w7 h7; have H7 := hid h7; clear h7))
      go_roundw
      case rel => exact Or.inr (Or.inr (Or.inr ⟨a0, a1, u, rfl, H7.out⟩))
      case measure => (simp [intOf]; try omega)
    · have HS := hid hS
      clear hS
      have HX := hid (HS.out.tail.perm (show (_ :: _ :: _ :: _ :: _ :: _ :: l).Perm (_ :: _ :: _ :: _ :: _ :: _ :: l) from List.perm_middle (l₁ := [_, _, _, _, _])))
      have HLX := hid (show ∀ B ∈ recL z fi ar a0 a1 a2 ++ l, Stable B from stabC (blkP_stable _ _) (stabC (blkP_stable _ _) (stabC (blkP_stable _ _) (stabC (blkP_stable _ _) (stabC (blkP_stable _ _) hl)))))
      have HLD := hid (ldRec HS.out)
      go_wp2_with (first | (refine wpList_ldS rfl (.tmp 7) 112 rfl rfl (.agg #[.pointer (some ⟨fi, 0, none⟩), .pointer (some ⟨a0, 0, none⟩), .pointer (some ⟨a1, 0, none⟩), .pointer (some ⟨a2, 0, none⟩), .pointer (some ⟨ar, 0, none⟩), .pointer t, .pointer c]) HLD.out ?_) | (refine wpList_aggS HX.out HLX.out rfl (.tmp 6) (.tmp 23) 112 rfl #[.pointer (some ⟨fi, 0, none⟩), .pointer (some ⟨a0, 0, none⟩), .pointer (some ⟨a1, 0, none⟩), .pointer (some ⟨a2, 0, none⟩), .pointer (some ⟨ar, 0, none⟩), .pointer t, .pointer c] rfl rfl sizeRec rfl rfl ?_; intro w8 h8; have H8 := hid h8; clear h8))
      exact post_cell1S H8.out Tryz.results39 rfl rfl (ldRec H8.out) ⟨fi, ar, a0, a1, a2, rfl, H8.out.tail⟩
end
end Go.Proofs.YtnklmadmenkdoaaGreat
