/- The courier that is held: rounds in which nothing is left to be done. -/
import Derived.Test.YtgidckkcibplgaaGreatHldD
namespace Go.Proofs.YtgidckkcibplgaaGreat
open Go.Ev
set_option maxRecDepth 1000000
theorem hldEnd0t : hldEnd true 0 = true := by kernel_rfl
theorem hldEnd0f : hldEnd false 0 = true := by kernel_rfl
theorem hldEnd1t : hldEnd true 1 = true := by kernel_rfl
theorem hldEnd1f : hldEnd false 1 = true := by kernel_rfl
theorem hldEnd2t : hldEnd true 2 = true := by kernel_rfl
theorem hldEnd2f : hldEnd false 2 = true := by kernel_rfl
theorem hldEnd3t : hldEnd true 3 = true := by kernel_rfl
theorem hldEnd3f : hldEnd false 3 = true := by kernel_rfl
theorem hldEnd4t : hldEnd true 4 = true := by kernel_rfl
theorem hldEnd4f : hldEnd false 4 = true := by kernel_rfl
theorem hldEnd5t : hldEnd true 5 = true := by kernel_rfl
theorem hldEnd5f : hldEnd false 5 = true := by kernel_rfl
theorem hldEnd6t : hldEnd true 6 = true := by kernel_rfl
theorem hldEnd6f : hldEnd false 6 = true := by kernel_rfl
theorem hldEnd7t : hldEnd true 7 = true := by kernel_rfl
theorem hldEnd7f : hldEnd false 7 = true := by kernel_rfl
theorem hldEnd8t : hldEnd true 8 = true := by kernel_rfl
theorem hldEnd8f : hldEnd false 8 = true := by kernel_rfl
theorem hldEnd9t : hldEnd true 9 = true := by kernel_rfl
theorem hldEnd9f : hldEnd false 9 = true := by kernel_rfl
theorem hldEnd10t : hldEnd true 10 = true := by kernel_rfl
theorem hldEnd10f : hldEnd false 10 = true := by kernel_rfl
theorem hldEnd11t : hldEnd true 11 = true := by kernel_rfl
theorem hldEnd11f : hldEnd false 11 = true := by kernel_rfl
theorem hldEnd12t : hldEnd true 12 = true := by kernel_rfl
theorem hldEnd12f : hldEnd false 12 = true := by kernel_rfl
theorem hldEnd13t : hldEnd true 13 = true := by kernel_rfl
theorem hldEnd13f : hldEnd false 13 = true := by kernel_rfl
theorem hldEnd14t : hldEnd true 14 = true := by kernel_rfl
theorem hldEnd14f : hldEnd false 14 = true := by kernel_rfl
theorem hldEnd15t : hldEnd true 15 = true := by kernel_rfl
theorem hldEnd15f : hldEnd false 15 = true := by kernel_rfl
theorem hldEnd16t : hldEnd true 16 = true := by kernel_rfl
theorem hldEnd16f : hldEnd false 16 = true := by kernel_rfl
theorem hldEnd17t : hldEnd true 17 = true := by kernel_rfl
theorem hldEnd17f : hldEnd false 17 = true := by kernel_rfl
theorem hldEnd18t : hldEnd true 18 = true := by kernel_rfl
theorem hldEnd18f : hldEnd false 18 = true := by kernel_rfl
theorem hldEnd19t : hldEnd true 19 = true := by kernel_rfl
theorem hldEnd19f : hldEnd false 19 = true := by kernel_rfl
theorem hldEnd20t : hldEnd true 20 = true := by kernel_rfl
theorem hldEnd20f : hldEnd false 20 = true := by kernel_rfl
theorem hldEnd21t : hldEnd true 21 = true := by kernel_rfl
theorem hldEnd21f : hldEnd false 21 = true := by kernel_rfl
theorem hldEnd22t : hldEnd true 22 = true := by kernel_rfl
theorem hldEnd22f : hldEnd false 22 = true := by kernel_rfl
theorem hldEnd23t : hldEnd true 23 = true := by kernel_rfl
theorem hldEnd23f : hldEnd false 23 = true := by kernel_rfl
theorem hldEnd24t : hldEnd true 24 = true := by kernel_rfl
theorem hldEnd24f : hldEnd false 24 = true := by kernel_rfl
theorem hldEnd25t : hldEnd true 25 = true := by kernel_rfl
theorem hldEnd25f : hldEnd false 25 = true := by kernel_rfl
theorem hldEnd26t : hldEnd true 26 = true := by kernel_rfl
theorem hldEnd26f : hldEnd false 26 = true := by kernel_rfl
theorem hldEnd27t : hldEnd true 27 = true := by kernel_rfl
theorem hldEnd27f : hldEnd false 27 = true := by kernel_rfl
theorem hldEnd28t : hldEnd true 28 = true := by kernel_rfl
theorem hldEnd28f : hldEnd false 28 = true := by kernel_rfl
theorem hldEnd29t : hldEnd true 29 = true := by kernel_rfl
theorem hldEnd29f : hldEnd false 29 = true := by kernel_rfl
theorem hldEnd30t : hldEnd true 30 = true := by kernel_rfl
theorem hldEnd30f : hldEnd false 30 = true := by kernel_rfl
theorem hldEnd31t : hldEnd true 31 = true := by kernel_rfl
theorem hldEnd31f : hldEnd false 31 = true := by kernel_rfl
theorem hldEnd32t : hldEnd true 32 = true := by kernel_rfl
theorem hldEnd32f : hldEnd false 32 = true := by kernel_rfl
theorem hldEnd33t : hldEnd true 33 = true := by kernel_rfl
theorem hldEnd33f : hldEnd false 33 = true := by kernel_rfl
theorem hldEnd34t : hldEnd true 34 = true := by kernel_rfl
theorem hldEnd34f : hldEnd false 34 = true := by kernel_rfl
theorem hldEnd35t : hldEnd true 35 = true := by kernel_rfl
theorem hldEnd35f : hldEnd false 35 = true := by kernel_rfl
theorem hldEnd36t : hldEnd true 36 = true := by kernel_rfl
theorem hldEnd36f : hldEnd false 36 = true := by kernel_rfl
theorem hldEnd37t : hldEnd true 37 = true := by kernel_rfl
theorem hldEnd37f : hldEnd false 37 = true := by kernel_rfl
theorem hldEnd38t : hldEnd true 38 = true := by kernel_rfl
theorem hldEnd38f : hldEnd false 38 = true := by kernel_rfl
theorem hldEnd39t : hldEnd true 39 = true := by kernel_rfl
theorem hldEnd39f : hldEnd false 39 = true := by kernel_rfl
theorem hldEnd40t : hldEnd true 40 = true := by kernel_rfl
theorem hldEnd40f : hldEnd false 40 = true := by kernel_rfl
theorem hldEnd41t : hldEnd true 41 = true := by kernel_rfl
theorem hldEnd41f : hldEnd false 41 = true := by kernel_rfl
theorem hldEnds : ∀ (z : Bool) (L : Nat), L ≤ 41 → hldEnd z L = true
  | true, 0, _ => hldEnd0t
  | false, 0, _ => hldEnd0f
  | true, 1, _ => hldEnd1t
  | false, 1, _ => hldEnd1f
  | true, 2, _ => hldEnd2t
  | false, 2, _ => hldEnd2f
  | true, 3, _ => hldEnd3t
  | false, 3, _ => hldEnd3f
  | true, 4, _ => hldEnd4t
  | false, 4, _ => hldEnd4f
  | true, 5, _ => hldEnd5t
  | false, 5, _ => hldEnd5f
  | true, 6, _ => hldEnd6t
  | false, 6, _ => hldEnd6f
  | true, 7, _ => hldEnd7t
  | false, 7, _ => hldEnd7f
  | true, 8, _ => hldEnd8t
  | false, 8, _ => hldEnd8f
  | true, 9, _ => hldEnd9t
  | false, 9, _ => hldEnd9f
  | true, 10, _ => hldEnd10t
  | false, 10, _ => hldEnd10f
  | true, 11, _ => hldEnd11t
  | false, 11, _ => hldEnd11f
  | true, 12, _ => hldEnd12t
  | false, 12, _ => hldEnd12f
  | true, 13, _ => hldEnd13t
  | false, 13, _ => hldEnd13f
  | true, 14, _ => hldEnd14t
  | false, 14, _ => hldEnd14f
  | true, 15, _ => hldEnd15t
  | false, 15, _ => hldEnd15f
  | true, 16, _ => hldEnd16t
  | false, 16, _ => hldEnd16f
  | true, 17, _ => hldEnd17t
  | false, 17, _ => hldEnd17f
  | true, 18, _ => hldEnd18t
  | false, 18, _ => hldEnd18f
  | true, 19, _ => hldEnd19t
  | false, 19, _ => hldEnd19f
  | true, 20, _ => hldEnd20t
  | false, 20, _ => hldEnd20f
  | true, 21, _ => hldEnd21t
  | false, 21, _ => hldEnd21f
  | true, 22, _ => hldEnd22t
  | false, 22, _ => hldEnd22f
  | true, 23, _ => hldEnd23t
  | false, 23, _ => hldEnd23f
  | true, 24, _ => hldEnd24t
  | false, 24, _ => hldEnd24f
  | true, 25, _ => hldEnd25t
  | false, 25, _ => hldEnd25f
  | true, 26, _ => hldEnd26t
  | false, 26, _ => hldEnd26f
  | true, 27, _ => hldEnd27t
  | false, 27, _ => hldEnd27f
  | true, 28, _ => hldEnd28t
  | false, 28, _ => hldEnd28f
  | true, 29, _ => hldEnd29t
  | false, 29, _ => hldEnd29f
  | true, 30, _ => hldEnd30t
  | false, 30, _ => hldEnd30f
  | true, 31, _ => hldEnd31t
  | false, 31, _ => hldEnd31f
  | true, 32, _ => hldEnd32t
  | false, 32, _ => hldEnd32f
  | true, 33, _ => hldEnd33t
  | false, 33, _ => hldEnd33f
  | true, 34, _ => hldEnd34t
  | false, 34, _ => hldEnd34f
  | true, 35, _ => hldEnd35t
  | false, 35, _ => hldEnd35f
  | true, 36, _ => hldEnd36t
  | false, 36, _ => hldEnd36f
  | true, 37, _ => hldEnd37t
  | false, 37, _ => hldEnd37f
  | true, 38, _ => hldEnd38t
  | false, 38, _ => hldEnd38f
  | true, 39, _ => hldEnd39t
  | false, 39, _ => hldEnd39f
  | true, 40, _ => hldEnd40t
  | false, 40, _ => hldEnd40f
  | true, 41, _ => hldEnd41t
  | false, 41, _ => hldEnd41f
  | _, n + 42, h => absurd h (by omega)
end Go.Proofs.YtgidckkcibplgaaGreat
