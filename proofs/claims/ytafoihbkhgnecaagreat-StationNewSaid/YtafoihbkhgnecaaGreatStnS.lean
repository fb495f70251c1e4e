/- StationNew, every configuration. -/
import Derived.Test.YtafoihbkhgnecaaGreatStnL
import Derived.Test.YtafoihbkhgnecaaGreatStnM
import Derived.Test.YtafoihbkhgnecaaGreatStnQ
import Derived.Test.YtafoihbkhgnecaaGreatStnY
set_option linter.unusedVariables false
set_option linter.unusedSimpArgs false
namespace Go.Proofs.YtafoihbkhgnecaaGreat
open Go.RowKit Go.Proofs.Num
theorem cStationLaw (w : World) (craft win size to re fc ft fr : Int) : Calls Tryz.prog 3 #[.agg #[.int .i64 craft, .int .i64 win, .int .i64 size, .int .i64 to, .int .i64 re, .int .i64 fc, .int .i64 ft, .int .i64 fr]] w fun e w' => e = .returned (.bool true) ∧ Below w.heap.size w w' := by
  by_cases c0 : 0 ≤ craft
  case neg => exact lawBad0 w craft win size to re fc ft fr  c0
  by_cases c1 : craft ≤ 1023
  case neg => exact lawBad1 w craft win size to re fc ft fr c0 c1
  by_cases c2 : 1 ≤ win
  case neg => exact lawBad2 w craft win size to re fc ft fr c0 c1 c2
  by_cases c3 : win ≤ 127
  case neg => exact lawBad3 w craft win size to re fc ft fr c0 c1 c2 c3
  by_cases c4 : 64 ≤ size
  case neg => exact lawBad4 w craft win size to re fc ft fr c0 c1 c2 c3 c4
  by_cases c5 : size ≤ 1024
  case neg => exact lawBad5 w craft win size to re fc ft fr c0 c1 c2 c3 c4 c5
  by_cases c6 : 1 ≤ to
  case neg => exact lawBad6 w craft win size to re fc ft fr c0 c1 c2 c3 c4 c5 c6
  by_cases c7 : to ≤ 1048576
  case neg => exact lawBad7 w craft win size to re fc ft fr c0 c1 c2 c3 c4 c5 c6 c7
  by_cases c8 : 1 ≤ re
  case neg => exact lawBad8 w craft win size to re fc ft fr c0 c1 c2 c3 c4 c5 c6 c7 c8
  by_cases c9 : re ≤ 255
  case neg => exact lawBad9 w craft win size to re fc ft fr c0 c1 c2 c3 c4 c5 c6 c7 c8 c9
  by_cases c10 : 1 ≤ fc
  case neg => exact lawBad10 w craft win size to re fc ft fr c0 c1 c2 c3 c4 c5 c6 c7 c8 c9 c10
  by_cases c11 : fc ≤ 512
  case neg => exact lawBad11 w craft win size to re fc ft fr c0 c1 c2 c3 c4 c5 c6 c7 c8 c9 c10 c11
  by_cases c12 : 1 ≤ ft
  case neg => exact lawBad12 w craft win size to re fc ft fr c0 c1 c2 c3 c4 c5 c6 c7 c8 c9 c10 c11 c12
  by_cases c13 : ft ≤ 1048576
  case neg => exact lawBad13 w craft win size to re fc ft fr c0 c1 c2 c3 c4 c5 c6 c7 c8 c9 c10 c11 c12 c13
  by_cases c14 : 0 ≤ fr
  case neg => exact lawBad14 w craft win size to re fc ft fr c0 c1 c2 c3 c4 c5 c6 c7 c8 c9 c10 c11 c12 c13 c14
  by_cases c15 : fr ≤ 255
  case neg => exact lawBad15 w craft win size to re fc ft fr c0 c1 c2 c3 c4 c5 c6 c7 c8 c9 c10 c11 c12 c13 c14 c15
  have t1 : to * (re + 1) ≤ 1048576 * 256 := Int.mul_le_mul c7 (by omega) (by omega) (by omega)
  have t2 : 1 * 1 ≤ to * (re + 1) := Int.mul_le_mul c6 (by omega) (by omega) (by omega)
  generalize hT : to * (re + 1) = T at t1 t2
  exact lawGood w craft win size to re fc ft fr T ⟨c0, c1⟩ ⟨c2, c3⟩ ⟨c4, c5⟩ ⟨c6, c7⟩ ⟨c8, c9⟩ ⟨c10, c11⟩ ⟨c12, c13⟩ ⟨c14, c15⟩ hT (by omega)
end Go.Proofs.YtafoihbkhgnecaaGreat
