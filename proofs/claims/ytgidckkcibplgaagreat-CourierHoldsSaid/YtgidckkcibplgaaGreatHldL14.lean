/- The courier that is held: files of these lengths, 12, 14: what the kernel checks. -/
import Derived.Test.YtgidckkcibplgaaGreatHldD
namespace Go.Proofs.YtgidckkcibplgaaGreat
open Go.Ev
set_option maxRecDepth 1000000
theorem hldAll12 : hldAll 12 = true := by kernel_rfl
theorem hldAll14 : hldAll 14 = true := by kernel_rfl
end Go.Proofs.YtgidckkcibplgaaGreat
