/- StationNew at a configuration that is not valid. -/
import Derived.Test.YtafoihbkhgnecaaGreatStnH
import Derived.Test.YtafoihbkhgnecaaGreatStnK
set_option linter.unusedVariables false
set_option linter.unusedSimpArgs false
namespace Go.Proofs.YtafoihbkhgnecaaGreat
open Go.RowKit Go.Proofs.Num
set_option maxRecDepth 100000 in
set_option maxHeartbeats 8000000 in
theorem lawBad0 (w : World) (craft win size to re fc ft fr : Int)  (cz : ¬ (0 ≤ craft)) : Calls Tryz.prog 3 #[.agg #[.int .i64 craft, .int .i64 win, .int .i64 size, .int .i64 to, .int .i64 re, .int .i64 fc, .int .i64 ft, .int .i64 fr]] w fun e w' => e = .returned (.bool true) ∧ Below w.heap.size w w' := by
  have d0 : decide (craft ≥ 0) = false := decide_eq_false (by omega)
  have HS := hid ((Sts.nil w).alloc stab0 (.cells #[.int .i64 craft, .int .i64 win, .int .i64 size, .int .i64 to, .int .i64 re, .int .i64 fc, .int .i64 ft, .int .i64 fr] 25))
  have HL := hid (stabC (blkP_stable w.heap.size (.cells #[.int .i64 craft, .int .i64 win, .int .i64 size, .int .i64 to, .int .i64 re, .int .i64 fc, .int .i64 ft, .int .i64 fr] 25 (0, 0))) stab0)
  have HAW := hid cAwake
  have HB : Hid (¬ ((0 ≤ craft ∧ craft ≤ 1023) ∧ (1 ≤ win ∧ win ≤ 127) ∧ (64 ≤ size ∧ size ≤ 1024) ∧ (1 ≤ to ∧ to ≤ 1048576) ∧ (1 ≤ re ∧ re ≤ 255) ∧ (1 ≤ fc ∧ fc ≤ 512) ∧ (1 ≤ ft ∧ ft ≤ 1048576) ∧ (0 ≤ fr ∧ fr ≤ 255))) := hid (by omega)
  clear  cz
  have hu : @Go.yielded.match_1 (fun _ => Option Bool) (some undef) (fun b => some b) (fun _ => none) = none := rfl
  go_enter Tryz.func3, Tryz.ntmps3
  go_wp2_with (first | (go_at_call 4; refine (HAW.out _).mono ?_; rintro e w1 ⟨rfl, hb⟩; have Ha := hid (HS.out.quiet HL.out hb); clear hb HS) | (refine wpList_ldS rfl (.tmp 1) 25 rfl rfl (.agg #[.int .i64 craft, .int .i64 win, .int .i64 size, .int .i64 to, .int .i64 re, .int .i64 fc, .int .i64 ft, .int .i64 fr]) (ldSta Ha.out) ?_) | (go_at_call 5; refine (cStaBad HL.out craft win size to re fc ft fr Ha.out HB.out).mono ?_; rintro e w2 ⟨rfl, h⟩; have Hb := hid h; clear h Ha) | (refine wpList_ldS rfl (.tmp 1) 25 rfl rfl (.agg #[.int .i64 craft, .int .i64 win, .int .i64 size, .int .i64 to, .int .i64 re, .int .i64 fc, .int .i64 ft, .int .i64 fr]) (ldSta Hb.out) ?_) | (go_at_call 6; refine (cValidF HL.out craft win size to re fc ft fr Hb.out HB.out).mono ?_; rintro e w3 ⟨rfl, h⟩; have Hc := hid h; clear h Hb; have j0 := (Sts.boxCell Hc.out 0 _ rfl).1; have j1 := (Sts.boxCell Hc.out 1 _ rfl).1; have j2 := (Sts.boxCell Hc.out 2 _ rfl).1; have j3 := (Sts.boxCell Hc.out 3 _ rfl).1; have j4 := (Sts.boxCell Hc.out 4 _ rfl).1; have j5 := (Sts.boxCell Hc.out 5 _ rfl).1; have j6 := (Sts.boxCell Hc.out 6 _ rfl).1; have j7 := (Sts.boxCell Hc.out 7 _ rfl).1))
  go_ret
  exact ⟨rfl, Hc.out.below⟩
set_option maxRecDepth 100000 in
set_option maxHeartbeats 8000000 in
theorem lawBad1 (w : World) (craft win size to re fc ft fr : Int) (c0 : 0 ≤ craft) (cz : ¬ (craft ≤ 1023)) : Calls Tryz.prog 3 #[.agg #[.int .i64 craft, .int .i64 win, .int .i64 size, .int .i64 to, .int .i64 re, .int .i64 fc, .int .i64 ft, .int .i64 fr]] w fun e w' => e = .returned (.bool true) ∧ Below w.heap.size w w' := by
  have d0 : decide (craft ≥ 0) = true := decide_eq_true (by omega)
  have d1 : decide (craft ≤ 1023) = false := decide_eq_false (by omega)
  have HS := hid ((Sts.nil w).alloc stab0 (.cells #[.int .i64 craft, .int .i64 win, .int .i64 size, .int .i64 to, .int .i64 re, .int .i64 fc, .int .i64 ft, .int .i64 fr] 25))
  have HL := hid (stabC (blkP_stable w.heap.size (.cells #[.int .i64 craft, .int .i64 win, .int .i64 size, .int .i64 to, .int .i64 re, .int .i64 fc, .int .i64 ft, .int .i64 fr] 25 (0, 0))) stab0)
  have HAW := hid cAwake
  have HB : Hid (¬ ((0 ≤ craft ∧ craft ≤ 1023) ∧ (1 ≤ win ∧ win ≤ 127) ∧ (64 ≤ size ∧ size ≤ 1024) ∧ (1 ≤ to ∧ to ≤ 1048576) ∧ (1 ≤ re ∧ re ≤ 255) ∧ (1 ≤ fc ∧ fc ≤ 512) ∧ (1 ≤ ft ∧ ft ≤ 1048576) ∧ (0 ≤ fr ∧ fr ≤ 255))) := hid (by omega)
  clear c0 cz
  have hu : @Go.yielded.match_1 (fun _ => Option Bool) (some undef) (fun b => some b) (fun _ => none) = none := rfl
  go_enter Tryz.func3, Tryz.ntmps3
  go_wp2_with (first | (go_at_call 4; refine (HAW.out _).mono ?_; rintro e w1 ⟨rfl, hb⟩; have Ha := hid (HS.out.quiet HL.out hb); clear hb HS) | (refine wpList_ldS rfl (.tmp 1) 25 rfl rfl (.agg #[.int .i64 craft, .int .i64 win, .int .i64 size, .int .i64 to, .int .i64 re, .int .i64 fc, .int .i64 ft, .int .i64 fr]) (ldSta Ha.out) ?_) | (go_at_call 5; refine (cStaBad HL.out craft win size to re fc ft fr Ha.out HB.out).mono ?_; rintro e w2 ⟨rfl, h⟩; have Hb := hid h; clear h Ha) | (refine wpList_ldS rfl (.tmp 1) 25 rfl rfl (.agg #[.int .i64 craft, .int .i64 win, .int .i64 size, .int .i64 to, .int .i64 re, .int .i64 fc, .int .i64 ft, .int .i64 fr]) (ldSta Hb.out) ?_) | (go_at_call 6; refine (cValidF HL.out craft win size to re fc ft fr Hb.out HB.out).mono ?_; rintro e w3 ⟨rfl, h⟩; have Hc := hid h; clear h Hb; have j0 := (Sts.boxCell Hc.out 0 _ rfl).1; have j1 := (Sts.boxCell Hc.out 1 _ rfl).1; have j2 := (Sts.boxCell Hc.out 2 _ rfl).1; have j3 := (Sts.boxCell Hc.out 3 _ rfl).1; have j4 := (Sts.boxCell Hc.out 4 _ rfl).1; have j5 := (Sts.boxCell Hc.out 5 _ rfl).1; have j6 := (Sts.boxCell Hc.out 6 _ rfl).1; have j7 := (Sts.boxCell Hc.out 7 _ rfl).1))
  go_ret
  exact ⟨rfl, Hc.out.below⟩
set_option maxRecDepth 100000 in
set_option maxHeartbeats 8000000 in
theorem lawBad2 (w : World) (craft win size to re fc ft fr : Int) (c0 : 0 ≤ craft) (c1 : craft ≤ 1023) (cz : ¬ (1 ≤ win)) : Calls Tryz.prog 3 #[.agg #[.int .i64 craft, .int .i64 win, .int .i64 size, .int .i64 to, .int .i64 re, .int .i64 fc, .int .i64 ft, .int .i64 fr]] w fun e w' => e = .returned (.bool true) ∧ Below w.heap.size w w' := by
  have d0 : decide (craft ≥ 0) = true := decide_eq_true (by omega)
  have d1 : decide (craft ≤ 1023) = true := decide_eq_true (by omega)
  have d2 : decide (win ≥ 1) = false := decide_eq_false (by omega)
  have HS := hid ((Sts.nil w).alloc stab0 (.cells #[.int .i64 craft, .int .i64 win, .int .i64 size, .int .i64 to, .int .i64 re, .int .i64 fc, .int .i64 ft, .int .i64 fr] 25))
  have HL := hid (stabC (blkP_stable w.heap.size (.cells #[.int .i64 craft, .int .i64 win, .int .i64 size, .int .i64 to, .int .i64 re, .int .i64 fc, .int .i64 ft, .int .i64 fr] 25 (0, 0))) stab0)
  have HAW := hid cAwake
  have HB : Hid (¬ ((0 ≤ craft ∧ craft ≤ 1023) ∧ (1 ≤ win ∧ win ≤ 127) ∧ (64 ≤ size ∧ size ≤ 1024) ∧ (1 ≤ to ∧ to ≤ 1048576) ∧ (1 ≤ re ∧ re ≤ 255) ∧ (1 ≤ fc ∧ fc ≤ 512) ∧ (1 ≤ ft ∧ ft ≤ 1048576) ∧ (0 ≤ fr ∧ fr ≤ 255))) := hid (by omega)
  clear c0 c1 cz
  have hu : @Go.yielded.match_1 (fun _ => Option Bool) (some undef) (fun b => some b) (fun _ => none) = none := rfl
  go_enter Tryz.func3, Tryz.ntmps3
  go_wp2_with (first | (go_at_call 4; refine (HAW.out _).mono ?_; rintro e w1 ⟨rfl, hb⟩; have Ha := hid (HS.out.quiet HL.out hb); clear hb HS) | (refine wpList_ldS rfl (.tmp 1) 25 rfl rfl (.agg #[.int .i64 craft, .int .i64 win, .int .i64 size, .int .i64 to, .int .i64 re, .int .i64 fc, .int .i64 ft, .int .i64 fr]) (ldSta Ha.out) ?_) | (go_at_call 5; refine (cStaBad HL.out craft win size to re fc ft fr Ha.out HB.out).mono ?_; rintro e w2 ⟨rfl, h⟩; have Hb := hid h; clear h Ha) | (refine wpList_ldS rfl (.tmp 1) 25 rfl rfl (.agg #[.int .i64 craft, .int .i64 win, .int .i64 size, .int .i64 to, .int .i64 re, .int .i64 fc, .int .i64 ft, .int .i64 fr]) (ldSta Hb.out) ?_) | (go_at_call 6; refine (cValidF HL.out craft win size to re fc ft fr Hb.out HB.out).mono ?_; rintro e w3 ⟨rfl, h⟩; have Hc := hid h; clear h Hb; have j0 := (Sts.boxCell Hc.out 0 _ rfl).1; have j1 := (Sts.boxCell Hc.out 1 _ rfl).1; have j2 := (Sts.boxCell Hc.out 2 _ rfl).1; have j3 := (Sts.boxCell Hc.out 3 _ rfl).1; have j4 := (Sts.boxCell Hc.out 4 _ rfl).1; have j5 := (Sts.boxCell Hc.out 5 _ rfl).1; have j6 := (Sts.boxCell Hc.out 6 _ rfl).1; have j7 := (Sts.boxCell Hc.out 7 _ rfl).1))
  go_ret
  exact ⟨rfl, Hc.out.below⟩
set_option maxRecDepth 100000 in
set_option maxHeartbeats 8000000 in
theorem lawBad3 (w : World) (craft win size to re fc ft fr : Int) (c0 : 0 ≤ craft) (c1 : craft ≤ 1023) (c2 : 1 ≤ win) (cz : ¬ (win ≤ 127)) : Calls Tryz.prog 3 #[.agg #[.int .i64 craft, .int .i64 win, .int .i64 size, .int .i64 to, .int .i64 re, .int .i64 fc, .int .i64 ft, .int .i64 fr]] w fun e w' => e = .returned (.bool true) ∧ Below w.heap.size w w' := by
  have d0 : decide (craft ≥ 0) = true := decide_eq_true (by omega)
  have d1 : decide (craft ≤ 1023) = true := decide_eq_true (by omega)
  have d2 : decide (win ≥ 1) = true := decide_eq_true (by omega)
  have d3 : decide (win ≤ 127) = false := decide_eq_false (by omega)
  have HS := hid ((Sts.nil w).alloc stab0 (.cells #[.int .i64 craft, .int .i64 win, .int .i64 size, .int .i64 to, .int .i64 re, .int .i64 fc, .int .i64 ft, .int .i64 fr] 25))
  have HL := hid (stabC (blkP_stable w.heap.size (.cells #[.int .i64 craft, .int .i64 win, .int .i64 size, .int .i64 to, .int .i64 re, .int .i64 fc, .int .i64 ft, .int .i64 fr] 25 (0, 0))) stab0)
  have HAW := hid cAwake
  have HB : Hid (¬ ((0 ≤ craft ∧ craft ≤ 1023) ∧ (1 ≤ win ∧ win ≤ 127) ∧ (64 ≤ size ∧ size ≤ 1024) ∧ (1 ≤ to ∧ to ≤ 1048576) ∧ (1 ≤ re ∧ re ≤ 255) ∧ (1 ≤ fc ∧ fc ≤ 512) ∧ (1 ≤ ft ∧ ft ≤ 1048576) ∧ (0 ≤ fr ∧ fr ≤ 255))) := hid (by omega)
  clear c0 c1 c2 cz
  have hu : @Go.yielded.match_1 (fun _ => Option Bool) (some undef) (fun b => some b) (fun _ => none) = none := rfl
  go_enter Tryz.func3, Tryz.ntmps3
  go_wp2_with (first | (go_at_call 4; refine (HAW.out _).mono ?_; rintro e w1 ⟨rfl, hb⟩; have Ha := hid (HS.out.quiet HL.out hb); clear hb HS) | (refine wpList_ldS rfl (.tmp 1) 25 rfl rfl (.agg #[.int .i64 craft, .int .i64 win, .int .i64 size, .int .i64 to, .int .i64 re, .int .i64 fc, .int .i64 ft, .int .i64 fr]) (ldSta Ha.out) ?_) | (go_at_call 5; refine (cStaBad HL.out craft win size to re fc ft fr Ha.out HB.out).mono ?_; rintro e w2 ⟨rfl, h⟩; have Hb := hid h; clear h Ha) | (refine wpList_ldS rfl (.tmp 1) 25 rfl rfl (.agg #[.int .i64 craft, .int .i64 win, .int .i64 size, .int .i64 to, .int .i64 re, .int .i64 fc, .int .i64 ft, .int .i64 fr]) (ldSta Hb.out) ?_) | (go_at_call 6; refine (cValidF HL.out craft win size to re fc ft fr Hb.out HB.out).mono ?_; rintro e w3 ⟨rfl, h⟩; have Hc := hid h; clear h Hb; have j0 := (Sts.boxCell Hc.out 0 _ rfl).1; have j1 := (Sts.boxCell Hc.out 1 _ rfl).1; have j2 := (Sts.boxCell Hc.out 2 _ rfl).1; have j3 := (Sts.boxCell Hc.out 3 _ rfl).1; have j4 := (Sts.boxCell Hc.out 4 _ rfl).1; have j5 := (Sts.boxCell Hc.out 5 _ rfl).1; have j6 := (Sts.boxCell Hc.out 6 _ rfl).1; have j7 := (Sts.boxCell Hc.out 7 _ rfl).1))
  go_ret
  exact ⟨rfl, Hc.out.below⟩
set_option maxRecDepth 100000 in
set_option maxHeartbeats 8000000 in
theorem lawBad4 (w : World) (craft win size to re fc ft fr : Int) (c0 : 0 ≤ craft) (c1 : craft ≤ 1023) (c2 : 1 ≤ win) (c3 : win ≤ 127) (cz : ¬ (64 ≤ size)) : Calls Tryz.prog 3 #[.agg #[.int .i64 craft, .int .i64 win, .int .i64 size, .int .i64 to, .int .i64 re, .int .i64 fc, .int .i64 ft, .int .i64 fr]] w fun e w' => e = .returned (.bool true) ∧ Below w.heap.size w w' := by
  have d0 : decide (craft ≥ 0) = true := decide_eq_true (by omega)
  have d1 : decide (craft ≤ 1023) = true := decide_eq_true (by omega)
  have d2 : decide (win ≥ 1) = true := decide_eq_true (by omega)
  have d3 : decide (win ≤ 127) = true := decide_eq_true (by omega)
  have d4 : decide (size ≥ 64) = false := decide_eq_false (by omega)
  have HS := hid ((Sts.nil w).alloc stab0 (.cells #[.int .i64 craft, .int .i64 win, .int .i64 size, .int .i64 to, .int .i64 re, .int .i64 fc, .int .i64 ft, .int .i64 fr] 25))
  have HL := hid (stabC (blkP_stable w.heap.size (.cells #[.int .i64 craft, .int .i64 win, .int .i64 size, .int .i64 to, .int .i64 re, .int .i64 fc, .int .i64 ft, .int .i64 fr] 25 (0, 0))) stab0)
  have HAW := hid cAwake
  have HB : Hid (¬ ((0 ≤ craft ∧ craft ≤ 1023) ∧ (1 ≤ win ∧ win ≤ 127) ∧ (64 ≤ size ∧ size ≤ 1024) ∧ (1 ≤ to ∧ to ≤ 1048576) ∧ (1 ≤ re ∧ re ≤ 255) ∧ (1 ≤ fc ∧ fc ≤ 512) ∧ (1 ≤ ft ∧ ft ≤ 1048576) ∧ (0 ≤ fr ∧ fr ≤ 255))) := hid (by omega)
  clear c0 c1 c2 c3 cz
  have hu : @Go.yielded.match_1 (fun _ => Option Bool) (some undef) (fun b => some b) (fun _ => none) = none := rfl
  go_enter Tryz.func3, Tryz.ntmps3
  go_wp2_with (first | (go_at_call 4; refine (HAW.out _).mono ?_; rintro e w1 ⟨rfl, hb⟩; have Ha := hid (HS.out.quiet HL.out hb); clear hb HS) | (refine wpList_ldS rfl (.tmp 1) 25 rfl rfl (.agg #[.int .i64 craft, .int .i64 win, .int .i64 size, .int .i64 to, .int .i64 re, .int .i64 fc, .int .i64 ft, .int .i64 fr]) (ldSta Ha.out) ?_) | (go_at_call 5; refine (cStaBad HL.out craft win size to re fc ft fr Ha.out HB.out).mono ?_; rintro e w2 ⟨rfl, h⟩; have Hb := hid h; clear h Ha) | (refine wpList_ldS rfl (.tmp 1) 25 rfl rfl (.agg #[.int .i64 craft, .int .i64 win, .int .i64 size, .int .i64 to, .int .i64 re, .int .i64 fc, .int .i64 ft, .int .i64 fr]) (ldSta Hb.out) ?_) | (go_at_call 6; refine (cValidF HL.out craft win size to re fc ft fr Hb.out HB.out).mono ?_; rintro e w3 ⟨rfl, h⟩; have Hc := hid h; clear h Hb; have j0 := (Sts.boxCell Hc.out 0 _ rfl).1; have j1 := (Sts.boxCell Hc.out 1 _ rfl).1; have j2 := (Sts.boxCell Hc.out 2 _ rfl).1; have j3 := (Sts.boxCell Hc.out 3 _ rfl).1; have j4 := (Sts.boxCell Hc.out 4 _ rfl).1; have j5 := (Sts.boxCell Hc.out 5 _ rfl).1; have j6 := (Sts.boxCell Hc.out 6 _ rfl).1; have j7 := (Sts.boxCell Hc.out 7 _ rfl).1))
  go_ret
  exact ⟨rfl, Hc.out.below⟩
set_option maxRecDepth 100000 in
set_option maxHeartbeats 8000000 in
theorem lawBad5 (w : World) (craft win size to re fc ft fr : Int) (c0 : 0 ≤ craft) (c1 : craft ≤ 1023) (c2 : 1 ≤ win) (c3 : win ≤ 127) (c4 : 64 ≤ size) (cz : ¬ (size ≤ 1024)) : Calls Tryz.prog 3 #[.agg #[.int .i64 craft, .int .i64 win, .int .i64 size, .int .i64 to, .int .i64 re, .int .i64 fc, .int .i64 ft, .int .i64 fr]] w fun e w' => e = .returned (.bool true) ∧ Below w.heap.size w w' := by
  have d0 : decide (craft ≥ 0) = true := decide_eq_true (by omega)
  have d1 : decide (craft ≤ 1023) = true := decide_eq_true (by omega)
  have d2 : decide (win ≥ 1) = true := decide_eq_true (by omega)
  have d3 : decide (win ≤ 127) = true := decide_eq_true (by omega)
  have d4 : decide (size ≥ 64) = true := decide_eq_true (by omega)
  have d5 : decide (size ≤ 1024) = false := decide_eq_false (by omega)
  have HS := hid ((Sts.nil w).alloc stab0 (.cells #[.int .i64 craft, .int .i64 win, .int .i64 size, .int .i64 to, .int .i64 re, .int .i64 fc, .int .i64 ft, .int .i64 fr] 25))
  have HL := hid (stabC (blkP_stable w.heap.size (.cells #[.int .i64 craft, .int .i64 win, .int .i64 size, .int .i64 to, .int .i64 re, .int .i64 fc, .int .i64 ft, .int .i64 fr] 25 (0, 0))) stab0)
  have HAW := hid cAwake
  have HB : Hid (¬ ((0 ≤ craft ∧ craft ≤ 1023) ∧ (1 ≤ win ∧ win ≤ 127) ∧ (64 ≤ size ∧ size ≤ 1024) ∧ (1 ≤ to ∧ to ≤ 1048576) ∧ (1 ≤ re ∧ re ≤ 255) ∧ (1 ≤ fc ∧ fc ≤ 512) ∧ (1 ≤ ft ∧ ft ≤ 1048576) ∧ (0 ≤ fr ∧ fr ≤ 255))) := hid (by omega)
  clear c0 c1 c2 c3 c4 cz
  have hu : @Go.yielded.match_1 (fun _ => Option Bool) (some undef) (fun b => some b) (fun _ => none) = none := rfl
  go_enter Tryz.func3, Tryz.ntmps3
  go_wp2_with (first | (go_at_call 4; refine (HAW.out _).mono ?_; rintro e w1 ⟨rfl, hb⟩; have Ha := hid (HS.out.quiet HL.out hb); clear hb HS) | (refine wpList_ldS rfl (.tmp 1) 25 rfl rfl (.agg #[.int .i64 craft, .int .i64 win, .int .i64 size, .int .i64 to, .int .i64 re, .int .i64 fc, .int .i64 ft, .int .i64 fr]) (ldSta Ha.out) ?_) | (go_at_call 5; refine (cStaBad HL.out craft win size to re fc ft fr Ha.out HB.out).mono ?_; rintro e w2 ⟨rfl, h⟩; have Hb := hid h; clear h Ha) | (refine wpList_ldS rfl (.tmp 1) 25 rfl rfl (.agg #[.int .i64 craft, .int .i64 win, .int .i64 size, .int .i64 to, .int .i64 re, .int .i64 fc, .int .i64 ft, .int .i64 fr]) (ldSta Hb.out) ?_) | (go_at_call 6; refine (cValidF HL.out craft win size to re fc ft fr Hb.out HB.out).mono ?_; rintro e w3 ⟨rfl, h⟩; have Hc := hid h; clear h Hb; have j0 := (Sts.boxCell Hc.out 0 _ rfl).1; have j1 := (Sts.boxCell Hc.out 1 _ rfl).1; have j2 := (Sts.boxCell Hc.out 2 _ rfl).1; have j3 := (Sts.boxCell Hc.out 3 _ rfl).1; have j4 := (Sts.boxCell Hc.out 4 _ rfl).1; have j5 := (Sts.boxCell Hc.out 5 _ rfl).1; have j6 := (Sts.boxCell Hc.out 6 _ rfl).1; have j7 := (Sts.boxCell Hc.out 7 _ rfl).1))
  go_ret
  exact ⟨rfl, Hc.out.below⟩
end Go.Proofs.YtafoihbkhgnecaaGreat
