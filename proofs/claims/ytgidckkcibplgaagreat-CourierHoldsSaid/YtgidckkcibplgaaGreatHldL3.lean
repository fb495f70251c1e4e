/- The courier that is held: files of these lengths, 39, 18, 4: what the kernel checks. -/
import Derived.Test.YtgidckkcibplgaaGreatHldD
namespace Go.Proofs.YtgidckkcibplgaaGreat
open Go.Ev
set_option maxRecDepth 1000000
theorem hldAll39 : hldAll 39 = true := by kernel_rfl
theorem hldAll18 : hldAll 18 = true := by kernel_rfl
theorem hldAll4 : hldAll 4 = true := by kernel_rfl
end Go.Proofs.YtgidckkcibplgaaGreat
