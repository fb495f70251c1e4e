/- Whether a configuration of the ground segment is valid. -/
import Derived.Test.YtafoihbkhgnecaaGreatStnE
import Derived.Test.YtafoihbkhgnecaaGreatStnW
set_option linter.unusedVariables false
set_option linter.unusedSimpArgs false
namespace Go.Proofs.YtafoihbkhgnecaaGreat
open Go.RowKit Go.Proofs.Num
set_option maxRecDepth 100000 in
theorem cWithinT (w : World) (n lo hi : Int) (h : lo ≤ n ∧ n ≤ hi) : Calls Tryz.prog 17 #[.int .i64 n, .int .i64 lo, .int .i64 hi] w fun e w' => e = .returned (.bool true) ∧ w = w' := by
  have d1 : decide (lo ≤ n) = true := decide_eq_true h.1
  have d2 : decide (n ≤ hi) = true := decide_eq_true h.2
  clear h
  go_enter Tryz.func17, Tryz.ntmps17
  go_wp2_with fail
  go_ret
  exact ⟨rfl, rfl⟩
set_option maxRecDepth 100000 in
theorem cWithinF (w : World) (n lo hi : Int) (h : n < lo ∨ hi < n) : Calls Tryz.prog 17 #[.int .i64 n, .int .i64 lo, .int .i64 hi] w fun e w' => e = .returned (.bool false) ∧ w = w' := by
  by_cases c : lo ≤ n
  · have d1 : decide (lo ≤ n) = true := decide_eq_true c
    have d2 : decide (n ≤ hi) = false := decide_eq_false (by omega)
    clear h c
    go_enter Tryz.func17, Tryz.ntmps17
    go_wp2_with fail
    go_ret
    exact ⟨rfl, rfl⟩
  · have d1 : decide (lo ≤ n) = false := decide_eq_false c
    clear h c
    go_enter Tryz.func17, Tryz.ntmps17
    go_wp2_with fail
    go_ret
    exact ⟨rfl, rfl⟩
section
variable {W w : World} {l : List HProp} (hl : ∀ B ∈ l, Stable B)
include hl
set_option maxRecDepth 100000 in
set_option maxHeartbeats 4000000 in
/-- A configuration whose numbers are in their ranges. -/
theorem cValidT (craft win size to re fc ft fr : Int) (hs : Sts W l w) (h1 : 0 ≤ craft ∧ craft ≤ 1023) (h2 : 1 ≤ win ∧ win ≤ 127) (h3 : 64 ≤ size ∧ size ≤ 1024) (h4 : 1 ≤ to ∧ to ≤ 1048576) (h5 : 1 ≤ re ∧ re ≤ 255) (h6 : 1 ≤ fc ∧ fc ≤ 512) (h7 : 1 ≤ ft ∧ ft ≤ 1048576) (h8 : 0 ≤ fr ∧ fr ≤ 255) :
    Calls Tryz.prog 6 #[.agg #[.int .i64 craft, .int .i64 win, .int .i64 size, .int .i64 to, .int .i64 re, .int .i64 fc, .int .i64 ft, .int .i64 fr]] w fun e w' => e = .returned (.bool true) ∧ Sts W l w' := by
  have HS := hid (hs.alloc hl (.cells #[.int .i64 craft, .int .i64 win, .int .i64 size, .int .i64 to, .int .i64 re, .int .i64 fc, .int .i64 ft, .int .i64 fr] 25))
  have HL := hid (stabC (blkP_stable w.heap.size (.cells #[.int .i64 craft, .int .i64 win, .int .i64 size, .int .i64 to, .int .i64 re, .int .i64 fc, .int .i64 ft, .int .i64 fr] 25 (0, 0))) hl)
  have k0 := (Sts.boxCell HS.out 0 _ rfl).1
  have k1 := (Sts.boxCell HS.out 1 _ rfl).1
  have k2 := (Sts.boxCell HS.out 2 _ rfl).1
  have k3 := (Sts.boxCell HS.out 3 _ rfl).1
  have k4 := (Sts.boxCell HS.out 4 _ rfl).1
  have k5 := (Sts.boxCell HS.out 5 _ rfl).1
  have k6 := (Sts.boxCell HS.out 6 _ rfl).1
  have k7 := (Sts.boxCell HS.out 7 _ rfl).1
  have H1 := hid h1
  have H2 := hid h2
  have H3 := hid h3
  have H4 := hid h4
  have H5 := hid h5
  have H6 := hid h6
  have H7 := hid h7
  have H8 := hid h8
  clear hs h1 h2 h3 h4 h5 h6 h7 h8
  go_enter Tryz.func6, Tryz.ntmps6
  go_wp2_with (first
    | (go_at_call 17; refine (cWithinT _ craft _ _ H1.out).mono ?_; rintro e w2 ⟨rfl, rfl⟩; clear H1)
    | (go_at_call 17; refine (cWithinT _ win _ _ H2.out).mono ?_; rintro e w2 ⟨rfl, rfl⟩; clear H2)
    | (go_at_call 17; refine (cWithinT _ size _ _ H3.out).mono ?_; rintro e w2 ⟨rfl, rfl⟩; clear H3)
    | (go_at_call 17; refine (cWithinT _ to _ _ H4.out).mono ?_; rintro e w2 ⟨rfl, rfl⟩; clear H4)
    | (go_at_call 17; refine (cWithinT _ re _ _ H5.out).mono ?_; rintro e w2 ⟨rfl, rfl⟩; clear H5)
    | (go_at_call 13; refine (cEntity HL.out fc ft fr HS.out H6.out H7.out H8.out).mono ?_; rintro e w3 ⟨c, m1, m2, m3, q, m, rfl, h⟩; have HX := hid (show Sts W l w3 from (h.tail.tail.tail.tail.tail.tail).tail); clear h))
  go_ret
  exact ⟨rfl, HX.out⟩
end
end Go.Proofs.YtafoihbkhgnecaaGreat
