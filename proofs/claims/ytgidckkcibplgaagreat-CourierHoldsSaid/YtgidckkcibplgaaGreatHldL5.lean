/- The courier that is held: files of these lengths, 37, 7, 20: what the kernel checks. -/
import Derived.Test.YtgidckkcibplgaaGreatHldD
namespace Go.Proofs.YtgidckkcibplgaaGreat
open Go.Ev
set_option maxRecDepth 1000000
theorem hldAll37 : hldAll 37 = true := by kernel_rfl
theorem hldAll7 : hldAll 7 = true := by kernel_rfl
theorem hldAll20 : hldAll 20 = true := by kernel_rfl
end Go.Proofs.YtgidckkcibplgaaGreat
