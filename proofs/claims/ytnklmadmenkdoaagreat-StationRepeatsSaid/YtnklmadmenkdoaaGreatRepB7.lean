/- The station repeats its first window: the kernel runs the law, by the evaluator, for these numbers of commands. -/
import Derived.Test.YtnklmadmenkdoaaGreatRepA
set_option linter.unusedVariables false
namespace Go.Proofs.YtnklmadmenkdoaaGreat
open Go.Ev
set_option maxRecDepth 1000000 in
theorem rep19 : repOk (.int .i64 (.ofNat 19)) (.iv .i64 0 150) = true := by kernel_rfl
set_option maxRecDepth 1000000 in
theorem rep20 : repOk (.int .i64 (.ofNat 20)) (.iv .i64 0 150) = true := by kernel_rfl
end Go.Proofs.YtnklmadmenkdoaaGreat
