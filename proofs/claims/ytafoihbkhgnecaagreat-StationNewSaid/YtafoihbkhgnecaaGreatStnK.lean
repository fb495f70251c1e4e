/- The chapter's example holds: the kernel runs it, by the evaluator. -/
import Derived.Test.YtafoihbkhgnecaaGreatProg
import Derived.Test.YtafoihbkhgnecaaGreatEvZf
set_option linter.unusedVariables false
namespace Go.Proofs.YtafoihbkhgnecaaGreat
open Go.Ev
theorem mixedSta : Tryz.prog.follows .mixedOrders = true := by kernel_rfl
set_option maxRecDepth 1000000 in
theorem awakeSta : okB (callV 4 [] Tryz.prog (rfPr Tryz.prog 100000 124) (run Tryz.prog (rfPr Tryz.prog 100000 124) 100000) bare 0 kid) = true := by kernel_rfl
theorem cAwake (w : World) : Calls Tryz.prog 4 #[] w fun e w' => e = .returned (.bool true) ∧ Go.RowKit.Below w.heap.size w w' :=
  closed_ok mixedSta (rfPr_ok mixedSta 100000 124) 100000 4 awakeSta w
end Go.Proofs.YtafoihbkhgnecaaGreat
