/- The station's example holds, and what the evaluator takes as known for its laws. -/
import Derived.Test.YtnklmadmenkdoaaGreatProg
import Derived.Test.YtnklmadmenkdoaaGreatEvK2
import Derived.Test.YtnklmadmenkdoaaGreatCrcX
set_option linter.unusedVariables false
namespace Go.Proofs.YtnklmadmenkdoaaGreat
open Go.Ev
theorem mixedSta : Tryz.prog.follows .mixedOrders = true := by kernel_rfl
noncomputable def staPr0 : Prims := crcPr 256 (crcPr 176 (rfPrF Tryz.prog 100000 218))
theorem staPr0_ok : SoundPr Tryz.prog staPr0 := crcProg_ok (crcRef_ok (rfPrF_ok mixedSta 100000 218))
set_option maxRecDepth 1000000 in
theorem awakeSta : okB (callV 8 [] Tryz.prog staPr0 (runF Tryz.prog staPr0 100000) bare 0 kid) = true := by kernel_rfl
theorem cAwake56 (w : World) : Calls Tryz.prog 8 #[] w fun e w' => e = .returned (.bool true) ∧ Go.RowKit.Below w.heap.size w w' :=
  open_okF mixedSta staPr0_ok 100000 8 [] awakeSta w [] .nil
noncomputable def staPr : Prims := tuPr 8 staPr0
theorem staPr_ok : SoundPr Tryz.prog staPr := tuPr_ok (by kernel_rfl) cAwake56 staPr0_ok
/-- The law at one number of commands, or within bounds. -/
noncomputable def repOk (a b : V) : Bool := okB (callV 4 [a, b] Tryz.prog staPr (runF Tryz.prog staPr 100000) bare 0 kid)
theorem repOk_ok {a b : V} (h : repOk a b = true) (w : World) {x y : Value} (hx : VR (fun _ => none) a x) (hy : VR (fun _ => none) b y) :
    Calls Tryz.prog 4 #[x, y] w fun e w' => e = .returned (.bool true) ∧ Go.RowKit.Below w.heap.size w w' :=
  open_okF mixedSta staPr_ok 100000 4 [a, b] h w [x, y] (.cons hx (.cons hy .nil))
end Go.Proofs.YtnklmadmenkdoaaGreat
