/- The courier that is held: files of these lengths, 29, 28, 41: what the kernel checks. -/
import Derived.Test.YtgidckkcibplgaaGreatHldD
namespace Go.Proofs.YtgidckkcibplgaaGreat
open Go.Ev
set_option maxRecDepth 1000000
theorem hldAll29 : hldAll 29 = true := by kernel_rfl
theorem hldAll28 : hldAll 28 = true := by kernel_rfl
theorem hldAll41 : hldAll 41 = true := by kernel_rfl
end Go.Proofs.YtgidckkcibplgaaGreat
