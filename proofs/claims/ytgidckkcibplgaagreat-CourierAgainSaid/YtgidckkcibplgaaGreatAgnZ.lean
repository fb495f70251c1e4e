/- The courier behind a restart: files without bytes, and what is too long. -/
import Derived.Test.YtgidckkcibplgaaGreatAgnG
namespace Go.Proofs.YtgidckkcibplgaaGreat
open Go.Ev
set_option maxRecDepth 1000000
theorem agnZero : okB (callV 7 [.xsl 1 0 0, .xsu 2 10] Tryz.prog agnPr (runF Tryz.prog agnPr 100000) bare 0 kid) = true := by kernel_rfl
theorem agnNil : okB (callV 7 [.nils, .xsu 2 10] Tryz.prog agnPr (runF Tryz.prog agnPr 100000) bare 0 kid) = true := by kernel_rfl
theorem agnLong : okB (callV 7 [.usl 41 9223372036854775807, .usl 0 9223372036854775807] Tryz.prog agnPr (runF Tryz.prog agnPr 100000) bare 0 kid) = true := by kernel_rfl
theorem agnDown : okB (callV 7 [.usl 0 40, .usl 11 9223372036854775807] Tryz.prog agnPr (runF Tryz.prog agnPr 100000) bare 0 kid) = true := by kernel_rfl
end Go.Proofs.YtgidckkcibplgaaGreat
