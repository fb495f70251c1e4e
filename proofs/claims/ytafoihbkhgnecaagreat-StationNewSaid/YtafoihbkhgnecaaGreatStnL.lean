/- StationNew at a valid configuration. -/
import Derived.Test.YtafoihbkhgnecaaGreatStnH
import Derived.Test.YtafoihbkhgnecaaGreatStnK
set_option linter.unusedVariables false
set_option linter.unusedSimpArgs false
namespace Go.Proofs.YtafoihbkhgnecaaGreat
open Go.RowKit Go.Proofs.Num
theorem sts_dropP {W y : World} {l : List HProp} : ∀ (pre : List HProp), Sts W (pre ++ l) y → Sts W l y
  | [], h => h
  | _ :: p, h => sts_dropP p (Sts.tail h)
set_option maxRecDepth 100000 in
set_option maxHeartbeats 8000000 in
theorem lawGood (w : World) (craft win size to re fc ft fr T : Int) (h1 : 0 ≤ craft ∧ craft ≤ 1023) (h2 : 1 ≤ win ∧ win ≤ 127) (h3 : 64 ≤ size ∧ size ≤ 1024) (h4 : 1 ≤ to ∧ to ≤ 1048576) (h5 : 1 ≤ re ∧ re ≤ 255) (h6 : 1 ≤ fc ∧ fc ≤ 512) (h7 : 1 ≤ ft ∧ ft ≤ 1048576) (h8 : 0 ≤ fr ∧ fr ≤ 255) (hT : to * (re + 1) = T) (hT2 : 1 ≤ T ∧ T ≤ 1099511627776) : Calls Tryz.prog 3 #[.agg #[.int .i64 craft, .int .i64 win, .int .i64 size, .int .i64 to, .int .i64 re, .int .i64 fc, .int .i64 ft, .int .i64 fr]] w fun e w' => e = .returned (.bool true) ∧ Below w.heap.size w w' := by
  have d0 : decide (craft ≥ 0) = true := decide_eq_true (by omega)
  have d1 : decide (craft ≤ 1023) = true := decide_eq_true (by omega)
  have d2 : decide (win ≥ 1) = true := decide_eq_true (by omega)
  have d3 : decide (win ≤ 127) = true := decide_eq_true (by omega)
  have d4 : decide (size ≥ 64) = true := decide_eq_true (by omega)
  have d5 : decide (size ≤ 1024) = true := decide_eq_true (by omega)
  have d6 : decide (to ≥ 1) = true := decide_eq_true (by omega)
  have d7 : decide (to ≤ 1048576) = true := decide_eq_true (by omega)
  have d8 : decide (re ≥ 1) = true := decide_eq_true (by omega)
  have d9 : decide (re ≤ 255) = true := decide_eq_true (by omega)
  have d10 : decide (fc ≥ 1) = true := decide_eq_true (by omega)
  have d11 : decide (fc ≤ 512) = true := decide_eq_true (by omega)
  have d12 : decide (ft ≥ 1) = true := decide_eq_true (by omega)
  have d13 : decide (ft ≤ 1048576) = true := decide_eq_true (by omega)
  have d14 : decide (fr ≥ 0) = true := decide_eq_true (by omega)
  have d15 : decide (fr ≤ 255) = true := decide_eq_true (by omega)
  have HS := hid ((Sts.nil w).alloc stab0 (.cells #[.int .i64 craft, .int .i64 win, .int .i64 size, .int .i64 to, .int .i64 re, .int .i64 fc, .int .i64 ft, .int .i64 fr] 25))
  have HL := hid (stabC (blkP_stable w.heap.size (.cells #[.int .i64 craft, .int .i64 win, .int .i64 size, .int .i64 to, .int .i64 re, .int .i64 fc, .int .i64 ft, .int .i64 fr] 25 (0, 0))) stab0)
  have HAW := hid cAwake
  have H1 := hid h1
  have H2 := hid h2
  have H3 := hid h3
  have H4 := hid h4
  have H5 := hid h5
  have H6 := hid h6
  have H7 := hid h7
  have H8 := hid h8
  have HT := hid hT
  have HT2 := hid hT2
  clear h1 h2 h3 h4 h5 h6 h7 h8 hT hT2
  go_enter Tryz.func3, Tryz.ntmps3
  go_wp2_with (first | (go_at_call 4; refine (HAW.out _).mono ?_; rintro e w1 ⟨rfl, hb⟩; have Ha := hid (HS.out.quiet HL.out hb); clear hb HS) | (refine wpList_ldS rfl (.tmp 1) 25 rfl rfl (.agg #[.int .i64 craft, .int .i64 win, .int .i64 size, .int .i64 to, .int .i64 re, .int .i64 fc, .int .i64 ft, .int .i64 fr]) (ldSta Ha.out) ?_) | (go_at_call 5; refine (cStaNew HL.out craft win size to re fc ft fr T Ha.out H1.out H2.out H3.out H4.out H5.out H6.out H7.out H8.out HT.out HT2.out).mono ?_; rintro e w2 ⟨g, fi, u0, u1, u2, ar, tq, c, fq, mp, m1, m2, m3, q, m, rfl, h⟩; have Hb := hid (sts_dropP _ h); clear h Ha) | (refine wpList_ldS rfl (.tmp 1) 25 rfl rfl (.agg #[.int .i64 craft, .int .i64 win, .int .i64 size, .int .i64 to, .int .i64 re, .int .i64 fc, .int .i64 ft, .int .i64 fr]) (ldSta Hb.out) ?_) | (go_at_call 6; refine (cValidT HL.out craft win size to re fc ft fr Hb.out H1.out H2.out H3.out H4.out H5.out H6.out H7.out H8.out).mono ?_; rintro e w3 ⟨rfl, h⟩; have Hc := hid h; clear h Hb; have j0 := (Sts.boxCell Hc.out 0 _ rfl).1; have j1 := (Sts.boxCell Hc.out 1 _ rfl).1; have j2 := (Sts.boxCell Hc.out 2 _ rfl).1; have j3 := (Sts.boxCell Hc.out 3 _ rfl).1; have j4 := (Sts.boxCell Hc.out 4 _ rfl).1; have j5 := (Sts.boxCell Hc.out 5 _ rfl).1; have j6 := (Sts.boxCell Hc.out 6 _ rfl).1; have j7 := (Sts.boxCell Hc.out 7 _ rfl).1))
  go_ret
  exact ⟨rfl, Hc.out.below⟩
end Go.Proofs.YtafoihbkhgnecaaGreat
