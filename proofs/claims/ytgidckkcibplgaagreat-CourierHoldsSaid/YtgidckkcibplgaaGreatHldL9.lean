/- The courier that is held: files of these lengths, 33, 15, 24: what the kernel checks. -/
import Derived.Test.YtgidckkcibplgaaGreatHldD
namespace Go.Proofs.YtgidckkcibplgaaGreat
open Go.Ev
set_option maxRecDepth 1000000
theorem hldAll33 : hldAll 33 = true := by kernel_rfl
theorem hldAll15 : hldAll 15 = true := by kernel_rfl
theorem hldAll24 : hldAll 24 = true := by kernel_rfl
end Go.Proofs.YtgidckkcibplgaaGreat
