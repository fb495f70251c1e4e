/- The courier that is held: files of these lengths, 34, 13, 23: what the kernel checks. -/
import Derived.Test.YtgidckkcibplgaaGreatHldD
namespace Go.Proofs.YtgidckkcibplgaaGreat
open Go.Ev
set_option maxRecDepth 1000000
theorem hldAll34 : hldAll 34 = true := by kernel_rfl
theorem hldAll13 : hldAll 13 = true := by kernel_rfl
theorem hldAll23 : hldAll 23 = true := by kernel_rfl
end Go.Proofs.YtgidckkcibplgaaGreat
