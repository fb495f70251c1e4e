/- The courier's example holds, and so does its law on nil entities: the kernel runs both, by the evaluator. -/
import Derived.Test.YtgidckkcibplgaaGreatProg
import Derived.Test.YtgidckkcibplgaaGreatEvHd
set_option linter.unusedVariables false
namespace Go.Proofs.YtgidckkcibplgaaGreat
open Go.Ev
theorem mixedCou : Tryz.prog.follows .mixedOrders = true := by kernel_rfl
set_option maxRecDepth 1000000 in
theorem aliveCou : okB (callV 9 [] Tryz.prog (rfPrF Tryz.prog 100000 104) (runF Tryz.prog (rfPrF Tryz.prog 100000 104) 100000) bare 0 kid) = true := by kernel_rfl
theorem cAlive29 (w : World) : Calls Tryz.prog 9 #[] w fun e w' => e = .returned (.bool true) ∧ Go.RowKit.Below w.heap.size w w' :=
  open_okF mixedCou (rfPrF_ok mixedCou 100000 104) 100000 9 [] aliveCou w [] (noBase w) (noBase_at w) .nil
noncomputable def couPr : Prims := tuPr 9 noPr
theorem couPr_ok : SoundPr Tryz.prog couPr := tuPr_ok (by kernel_rfl) cAlive29 noPr_ok
end Go.Proofs.YtgidckkcibplgaaGreat
