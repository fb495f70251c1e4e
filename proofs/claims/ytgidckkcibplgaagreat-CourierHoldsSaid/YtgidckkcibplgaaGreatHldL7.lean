/- The courier that is held: files of these lengths, 35, 11, 22: what the kernel checks. -/
import Derived.Test.YtgidckkcibplgaaGreatHldD
namespace Go.Proofs.YtgidckkcibplgaaGreat
open Go.Ev
set_option maxRecDepth 1000000
theorem hldAll35 : hldAll 35 = true := by kernel_rfl
theorem hldAll11 : hldAll 11 = true := by kernel_rfl
theorem hldAll22 : hldAll 22 = true := by kernel_rfl
end Go.Proofs.YtgidckkcibplgaaGreat
