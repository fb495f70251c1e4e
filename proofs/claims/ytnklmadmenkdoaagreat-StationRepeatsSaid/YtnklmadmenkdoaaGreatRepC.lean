/- The station repeats its first window, whatever the numbers. -/
import Derived.Test.YtnklmadmenkdoaaGreatRepB1
import Derived.Test.YtnklmadmenkdoaaGreatRepB2
import Derived.Test.YtnklmadmenkdoaaGreatRepB3
import Derived.Test.YtnklmadmenkdoaaGreatRepB4
import Derived.Test.YtnklmadmenkdoaaGreatRepB5
import Derived.Test.YtnklmadmenkdoaaGreatRepB6
import Derived.Test.YtnklmadmenkdoaaGreatRepB7
set_option linter.unusedVariables false
namespace Go.Proofs.YtnklmadmenkdoaaGreat
open Go.Ev
set_option maxRecDepth 1000000 in
theorem repLow : repOk (.iv .i64 (-9223372036854775808) 0) .opq = true := by kernel_rfl
set_option maxRecDepth 1000000 in
theorem repHigh : repOk (.iv .i64 21 9223372036854775807) .opq = true := by kernel_rfl
set_option maxRecDepth 1000000 in
theorem repNeg : repOk (.iv .i64 1 20) (.iv .i64 (-9223372036854775808) (-1)) = true := by kernel_rfl
set_option maxRecDepth 1000000 in
theorem repMany : repOk (.iv .i64 1 20) (.iv .i64 151 9223372036854775807) = true := by kernel_rfl
theorem cStationRepeats (w : World) (n t : Int) (hn : -9223372036854775808 ≤ n ∧ n < 9223372036854775808) (ht : -9223372036854775808 ≤ t ∧ t < 9223372036854775808) :
    Calls Tryz.prog 4 #[.int .i64 n, .int .i64 t] w fun e w' => e = .returned (.bool true) ∧ Go.RowKit.Below w.heap.size w w' := by
  have oi : ∀ m, VR (fun _ => none) .opq (.int .i64 m) := fun m => .opq rfl (by simp)
  by_cases h1 : n < 1
  · exact repOk_ok repLow w (.iv hn.1 (by omega)) (oi t)
  by_cases h2 : 20 < n
  · exact repOk_ok repHigh w (.iv (by omega) (by omega)) (oi t)
  by_cases h3 : t < 0
  · exact repOk_ok repNeg w (.iv (by omega) (by omega)) (.iv ht.1 (by omega))
  by_cases h4 : 150 < t
  · exact repOk_ok repMany w (.iv (by omega) (by omega)) (.iv (by omega) (by omega))
  have hv : VR (fun _ => none) (.iv .i64 0 150) (.int .i64 t) := .iv (by omega) (by omega)
  have hc : n = 1 ∨ n = 2 ∨ n = 3 ∨ n = 4 ∨ n = 5 ∨ n = 6 ∨ n = 7 ∨ n = 8 ∨ n = 9 ∨ n = 10 ∨ n = 11 ∨ n = 12 ∨ n = 13 ∨ n = 14 ∨ n = 15 ∨ n = 16 ∨ n = 17 ∨ n = 18 ∨ n = 19 ∨ n = 20 := by omega
  rcases hc with rfl | rfl | rfl | rfl | rfl | rfl | rfl | rfl | rfl | rfl | rfl | rfl | rfl | rfl | rfl | rfl | rfl | rfl | rfl | rfl
  · exact repOk_ok rep1 w (.int .i64 1) hv
  · exact repOk_ok rep2 w (.int .i64 2) hv
  · exact repOk_ok rep3 w (.int .i64 3) hv
  · exact repOk_ok rep4 w (.int .i64 4) hv
  · exact repOk_ok rep5 w (.int .i64 5) hv
  · exact repOk_ok rep6 w (.int .i64 6) hv
  · exact repOk_ok rep7 w (.int .i64 7) hv
  · exact repOk_ok rep8 w (.int .i64 8) hv
  · exact repOk_ok rep9 w (.int .i64 9) hv
  · exact repOk_ok rep10 w (.int .i64 10) hv
  · exact repOk_ok rep11 w (.int .i64 11) hv
  · exact repOk_ok rep12 w (.int .i64 12) hv
  · exact repOk_ok rep13 w (.int .i64 13) hv
  · exact repOk_ok rep14 w (.int .i64 14) hv
  · exact repOk_ok rep15 w (.int .i64 15) hv
  · exact repOk_ok rep16 w (.int .i64 16) hv
  · exact repOk_ok rep17 w (.int .i64 17) hv
  · exact repOk_ok rep18 w (.int .i64 18) hv
  · exact repOk_ok rep19 w (.int .i64 19) hv
  · exact repOk_ok rep20 w (.int .i64 20) hv
end Go.Proofs.YtnklmadmenkdoaaGreat
