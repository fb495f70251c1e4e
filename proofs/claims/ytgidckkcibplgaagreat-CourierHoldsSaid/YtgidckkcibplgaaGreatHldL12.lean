/- The courier that is held: files of these lengths, 27, 26, 6: what the kernel checks. -/
import Derived.Test.YtgidckkcibplgaaGreatHldD
namespace Go.Proofs.YtgidckkcibplgaaGreat
open Go.Ev
set_option maxRecDepth 1000000
theorem hldAll27 : hldAll 27 = true := by kernel_rfl
theorem hldAll26 : hldAll 26 = true := by kernel_rfl
theorem hldAll6 : hldAll 6 = true := by kernel_rfl
end Go.Proofs.YtgidckkcibplgaaGreat
