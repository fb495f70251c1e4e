/- The courier behind a restart: files of 1 to 10 bytes reach the general state. -/
import Derived.Test.YtgidckkcibplgaaGreatAgnG
namespace Go.Proofs.YtgidckkcibplgaaGreat
open Go.Ev
set_option maxRecDepth 1000000
theorem agnHead1 : agnHead 1 = true := by kernel_rfl
theorem agnHead2 : agnHead 2 = true := by kernel_rfl
theorem agnHead3 : agnHead 3 = true := by kernel_rfl
theorem agnHead4 : agnHead 4 = true := by kernel_rfl
theorem agnHead5 : agnHead 5 = true := by kernel_rfl
theorem agnHead6 : agnHead 6 = true := by kernel_rfl
theorem agnHead7 : agnHead 7 = true := by kernel_rfl
theorem agnHead8 : agnHead 8 = true := by kernel_rfl
theorem agnHead9 : agnHead 9 = true := by kernel_rfl
theorem agnHead10 : agnHead 10 = true := by kernel_rfl
end Go.Proofs.YtgidckkcibplgaaGreat
