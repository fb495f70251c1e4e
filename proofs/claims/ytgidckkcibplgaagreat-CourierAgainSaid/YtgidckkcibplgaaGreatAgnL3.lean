/- The courier behind a restart: files of 21 to 30 bytes reach the general state. -/
import Derived.Test.YtgidckkcibplgaaGreatAgnG
namespace Go.Proofs.YtgidckkcibplgaaGreat
open Go.Ev
set_option maxRecDepth 1000000
theorem agnHead21 : agnHead 21 = true := by kernel_rfl
theorem agnHead22 : agnHead 22 = true := by kernel_rfl
theorem agnHead23 : agnHead 23 = true := by kernel_rfl
theorem agnHead24 : agnHead 24 = true := by kernel_rfl
theorem agnHead25 : agnHead 25 = true := by kernel_rfl
theorem agnHead26 : agnHead 26 = true := by kernel_rfl
theorem agnHead27 : agnHead 27 = true := by kernel_rfl
theorem agnHead28 : agnHead 28 = true := by kernel_rfl
theorem agnHead29 : agnHead 29 = true := by kernel_rfl
theorem agnHead30 : agnHead 30 = true := by kernel_rfl
end Go.Proofs.YtgidckkcibplgaaGreat
