/- The courier that is held: files of these lengths, 25, 21, 1, 2: what the kernel checks. -/
import Derived.Test.YtgidckkcibplgaaGreatHldD
namespace Go.Proofs.YtgidckkcibplgaaGreat
open Go.Ev
set_option maxRecDepth 1000000
theorem hldAll25 : hldAll 25 = true := by kernel_rfl
theorem hldAll21 : hldAll 21 = true := by kernel_rfl
theorem hldAll1 : hldAll 1 = true := by kernel_rfl
theorem hldAll2 : hldAll 2 = true := by kernel_rfl
end Go.Proofs.YtgidckkcibplgaaGreat
