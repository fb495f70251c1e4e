/- The courier behind a restart: files of 11 to 20 bytes reach the general state. -/
import Derived.Test.YtgidckkcibplgaaGreatAgnG
namespace Go.Proofs.YtgidckkcibplgaaGreat
open Go.Ev
set_option maxRecDepth 1000000
theorem agnHead11 : agnHead 11 = true := by kernel_rfl
theorem agnHead12 : agnHead 12 = true := by kernel_rfl
theorem agnHead13 : agnHead 13 = true := by kernel_rfl
theorem agnHead14 : agnHead 14 = true := by kernel_rfl
theorem agnHead15 : agnHead 15 = true := by kernel_rfl
theorem agnHead16 : agnHead 16 = true := by kernel_rfl
theorem agnHead17 : agnHead 17 = true := by kernel_rfl
theorem agnHead18 : agnHead 18 = true := by kernel_rfl
theorem agnHead19 : agnHead 19 = true := by kernel_rfl
theorem agnHead20 : agnHead 20 = true := by kernel_rfl
end Go.Proofs.YtgidckkcibplgaaGreat
