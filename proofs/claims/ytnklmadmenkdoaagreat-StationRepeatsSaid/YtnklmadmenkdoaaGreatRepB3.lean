/- The station repeats its first window: the kernel runs the law, by the evaluator, for these numbers of commands. -/
import Derived.Test.YtnklmadmenkdoaaGreatRepA
set_option linter.unusedVariables false
namespace Go.Proofs.YtnklmadmenkdoaaGreat
open Go.Ev
set_option maxRecDepth 1000000 in
theorem rep7 : repOk (.int .i64 (.ofNat 7)) (.iv .i64 0 150) = true := by kernel_rfl
set_option maxRecDepth 1000000 in
theorem rep8 : repOk (.int .i64 (.ofNat 8)) (.iv .i64 0 150) = true := by kernel_rfl
set_option maxRecDepth 1000000 in
theorem rep9 : repOk (.int .i64 (.ofNat 9)) (.iv .i64 0 150) = true := by kernel_rfl
end Go.Proofs.YtnklmadmenkdoaaGreat
