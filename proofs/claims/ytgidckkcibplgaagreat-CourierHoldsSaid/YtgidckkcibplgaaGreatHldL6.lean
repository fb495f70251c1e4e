/- The courier that is held: files of these lengths, 36, 9, 10: what the kernel checks. -/
import Derived.Test.YtgidckkcibplgaaGreatHldD
namespace Go.Proofs.YtgidckkcibplgaaGreat
open Go.Ev
set_option maxRecDepth 1000000
theorem hldAll36 : hldAll 36 = true := by kernel_rfl
theorem hldAll9 : hldAll 9 = true := by kernel_rfl
theorem hldAll10 : hldAll 10 = true := by kernel_rfl
end Go.Proofs.YtgidckkcibplgaaGreat
