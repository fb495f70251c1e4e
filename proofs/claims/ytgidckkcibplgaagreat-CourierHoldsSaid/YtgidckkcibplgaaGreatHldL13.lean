/- The courier that is held: files of these lengths, 30, 16, 8: what the kernel checks. -/
import Derived.Test.YtgidckkcibplgaaGreatHldD
namespace Go.Proofs.YtgidckkcibplgaaGreat
open Go.Ev
set_option maxRecDepth 1000000
theorem hldAll30 : hldAll 30 = true := by kernel_rfl
theorem hldAll16 : hldAll 16 = true := by kernel_rfl
theorem hldAll8 : hldAll 8 = true := by kernel_rfl
end Go.Proofs.YtgidckkcibplgaaGreat
