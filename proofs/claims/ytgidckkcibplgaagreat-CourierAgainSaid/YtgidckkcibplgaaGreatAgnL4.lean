/- The courier behind a restart: files of 31 to 40 bytes reach the general state. -/
import Derived.Test.YtgidckkcibplgaaGreatAgnG
namespace Go.Proofs.YtgidckkcibplgaaGreat
open Go.Ev
set_option maxRecDepth 1000000
theorem agnHead31 : agnHead 31 = true := by kernel_rfl
theorem agnHead32 : agnHead 32 = true := by kernel_rfl
theorem agnHead33 : agnHead 33 = true := by kernel_rfl
theorem agnHead34 : agnHead 34 = true := by kernel_rfl
theorem agnHead35 : agnHead 35 = true := by kernel_rfl
theorem agnHead36 : agnHead 36 = true := by kernel_rfl
theorem agnHead37 : agnHead 37 = true := by kernel_rfl
theorem agnHead38 : agnHead 38 = true := by kernel_rfl
theorem agnHead39 : agnHead 39 = true := by kernel_rfl
theorem agnHead40 : agnHead 40 = true := by kernel_rfl
end Go.Proofs.YtgidckkcibplgaaGreat
