/- The courier that is held: files of these lengths, 32, 31, 0: what the kernel checks. -/
import Derived.Test.YtgidckkcibplgaaGreatHldD
namespace Go.Proofs.YtgidckkcibplgaaGreat
open Go.Ev
set_option maxRecDepth 1000000
theorem hldAll32 : hldAll 32 = true := by kernel_rfl
theorem hldAll31 : hldAll 31 = true := by kernel_rfl
theorem hldAll0 : hldAll 0 = true := by kernel_rfl
end Go.Proofs.YtgidckkcibplgaaGreat
