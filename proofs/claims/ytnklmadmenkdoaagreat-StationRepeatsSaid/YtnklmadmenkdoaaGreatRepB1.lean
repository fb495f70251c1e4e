/- The station repeats its first window: the kernel runs the law, by the evaluator, for these numbers of commands. -/
import Derived.Test.YtnklmadmenkdoaaGreatRepA
set_option linter.unusedVariables false
namespace Go.Proofs.YtnklmadmenkdoaaGreat
open Go.Ev
set_option maxRecDepth 1000000 in
theorem rep1 : repOk (.int .i64 (.ofNat 1)) (.iv .i64 0 150) = true := by kernel_rfl
set_option maxRecDepth 1000000 in
theorem rep2 : repOk (.int .i64 (.ofNat 2)) (.iv .i64 0 150) = true := by kernel_rfl
set_option maxRecDepth 1000000 in
theorem rep3 : repOk (.int .i64 (.ofNat 3)) (.iv .i64 0 150) = true := by kernel_rfl
end Go.Proofs.YtnklmadmenkdoaaGreat
