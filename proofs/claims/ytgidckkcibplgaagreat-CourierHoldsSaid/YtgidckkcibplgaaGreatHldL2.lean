/- The courier that is held: files of these lengths, 40, 17, 3: what the kernel checks. -/
import Derived.Test.YtgidckkcibplgaaGreatHldD
namespace Go.Proofs.YtgidckkcibplgaaGreat
open Go.Ev
set_option maxRecDepth 1000000
theorem hldAll40 : hldAll 40 = true := by kernel_rfl
theorem hldAll17 : hldAll 17 = true := by kernel_rfl
theorem hldAll3 : hldAll 3 = true := by kernel_rfl
end Go.Proofs.YtgidckkcibplgaaGreat
