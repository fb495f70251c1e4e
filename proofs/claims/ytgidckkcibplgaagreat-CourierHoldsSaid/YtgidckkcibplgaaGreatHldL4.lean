/- The courier that is held: files of these lengths, 38, 5, 19: what the kernel checks. -/
import Derived.Test.YtgidckkcibplgaaGreatHldD
namespace Go.Proofs.YtgidckkcibplgaaGreat
open Go.Ev
set_option maxRecDepth 1000000
theorem hldAll38 : hldAll 38 = true := by kernel_rfl
theorem hldAll5 : hldAll 5 = true := by kernel_rfl
theorem hldAll19 : hldAll 19 = true := by kernel_rfl
end Go.Proofs.YtgidckkcibplgaaGreat
