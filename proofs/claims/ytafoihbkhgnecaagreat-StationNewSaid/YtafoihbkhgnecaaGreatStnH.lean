/- station.New at a configuration that is not valid. -/
import Derived.Test.YtafoihbkhgnecaaGreatStnG
set_option linter.unusedVariables false
set_option linter.unusedSimpArgs false
namespace Go.Proofs.YtafoihbkhgnecaaGreat
open Go.RowKit Go.Proofs.Num
section
variable {W w : World} {l : List HProp} (hl : ∀ B ∈ l, Stable B)
include hl
set_option maxRecDepth 100000 in
set_option maxHeartbeats 2000000 in
theorem cStaBad (craft win size to re fc ft fr : Int) (hs : Sts W l w) (hb : ¬ ((0 ≤ craft ∧ craft ≤ 1023) ∧ (1 ≤ win ∧ win ≤ 127) ∧ (64 ≤ size ∧ size ≤ 1024) ∧ (1 ≤ to ∧ to ≤ 1048576) ∧ (1 ≤ re ∧ re ≤ 255) ∧ (1 ≤ fc ∧ fc ≤ 512) ∧ (1 ≤ ft ∧ ft ≤ 1048576) ∧ (0 ≤ fr ∧ fr ≤ 255))) :
    Calls Tryz.prog 5 #[.agg #[.int .i64 craft, .int .i64 win, .int .i64 size, .int .i64 to, .int .i64 re, .int .i64 fc, .int .i64 ft, .int .i64 fr]] w fun e w' => e = .returned (.tuple #[.pointer none, .int .i64 1]) ∧ Sts W l w' := by
  have HS := hid (hs.alloc hl (.cells #[.int .i64 craft, .int .i64 win, .int .i64 size, .int .i64 to, .int .i64 re, .int .i64 fc, .int .i64 ft, .int .i64 fr] 25))
  have HL := hid (stabC (blkP_stable w.heap.size (.cells #[.int .i64 craft, .int .i64 win, .int .i64 size, .int .i64 to, .int .i64 re, .int .i64 fc, .int .i64 ft, .int .i64 fr] 25 (0, 0))) hl)
  have HB := hid hb
  clear hs hb
  go_enter Tryz.func5, Tryz.ntmps5
  go_wp2_with (first | (refine wpList_ldS rfl (.tmp 1) 25 rfl rfl (.agg #[.int .i64 craft, .int .i64 win, .int .i64 size, .int .i64 to, .int .i64 re, .int .i64 fc, .int .i64 ft, .int .i64 fr]) (ldSta HS.out) ?_) | (go_at_call 6; refine (cValidF HL.out craft win size to re fc ft fr HS.out HB.out).mono ?_; rintro e w2 ⟨rfl, h⟩; have HV := hid h.tail; clear h))
  go_ret2
  exact ⟨rfl, HV.out⟩
end
end Go.Proofs.YtafoihbkhgnecaaGreat
