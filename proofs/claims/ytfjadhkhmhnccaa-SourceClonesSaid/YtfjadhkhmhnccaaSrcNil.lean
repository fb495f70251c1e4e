/- The sending end at a nil pointer and at a zero value. -/
import Derived.Test.YtfjadhkhmhnccaaSrcUnits
import Derived.Test.YtfjadhkhmhnccaaWalkS
set_option linter.unusedVariables false
set_option linter.unusedSimpArgs false
namespace Go.Proofs.Ytfjadhkhmhnccaa
open Go.RowKit Go.Proofs.Num
section
variable (w : World) (v : Value) (hok : ∀ y, Below w.heap.size w y → Calls Try.prog 59 #[v] y fun e w' => e = .returned (.bool false) ∧ y = w')
include hok
set_option maxRecDepth 100000 in
theorem cNoSusp (now : Int) : Calls Try.prog 28 #[v, .int .i64 now] w fun e w' => e = .returned (.int .i64 2) ∧ Below w.heap.size w w' := by
  have HOK := hid hok
  have HBL := hid (Below.refl w.heap.size w)
  clear hok
  go_enter Try.func28, Try.ntmps28
  go_wp2_with (first | (go_at_call 59; refine (HOK.out _ HBL.out).mono ?_; rintro e w2 ⟨rfl, rfl⟩))
  go_ret
  exact ⟨rfl, HBL.out⟩
set_option maxRecDepth 100000 in
theorem cNoRes (now : Int) : Calls Try.prog 29 #[v, .int .i64 now] w fun e w' => e = .returned (.int .i64 2) ∧ Below w.heap.size w w' := by
  have HOK := hid hok
  have HBL := hid (Below.refl w.heap.size w)
  clear hok
  go_enter Try.func29, Try.ntmps29
  go_wp2_with (first | (go_at_call 59; refine (HOK.out _ HBL.out).mono ?_; rintro e w2 ⟨rfl, rfl⟩))
  go_ret
  exact ⟨rfl, HBL.out⟩
set_option maxRecDepth 100000 in
theorem cNoCan  : Calls Try.prog 30 #[v] w fun e w' => e = .returned (.int .i64 2) ∧ Below w.heap.size w w' := by
  have HOK := hid hok
  have HBL := hid (Below.refl w.heap.size w)
  clear hok
  go_enter Try.func30, Try.ntmps30
  go_wp2_with (first | (go_at_call 59; refine (HOK.out _ HBL.out).mono ?_; rintro e w2 ⟨rfl, rfl⟩))
  go_ret
  exact ⟨rfl, HBL.out⟩
set_option maxRecDepth 100000 in
theorem cNoClone  : Calls Try.prog 31 #[v] w fun e w' => e = .returned (.pointer none) ∧ Below w.heap.size w w' := by
  have HOK := hid hok
  have HBL := hid (Below.refl w.heap.size w)
  clear hok
  go_enter Try.func31, Try.ntmps31
  go_wp2_with (first | (go_at_call 59; refine (HOK.out _ HBL.out).mono ?_; rintro e w2 ⟨rfl, rfl⟩))
  go_ret
  exact ⟨rfl, HBL.out⟩
set_option maxRecDepth 100000 in
theorem cNoState  : Calls Try.prog 17 #[v] w fun e w' => e = .returned (.int .i64 0) ∧ Below w.heap.size w w' := by
  have HOK := hid hok
  have HBL := hid (Below.refl w.heap.size w)
  clear hok
  go_enter Try.func17, Try.ntmps17
  go_wp2_with (first | (go_at_call 59; refine (HOK.out _ HBL.out).mono ?_; rintro e w2 ⟨rfl, rfl⟩))
  go_ret
  exact ⟨rfl, HBL.out⟩
set_option maxRecDepth 100000 in
theorem cNoTake (now : Int) : Calls Try.prog 25 #[v, .agg #[.int .i64 0, .int .i64 0, .int .i64 0, .int .i64 0, .string ⟨#[]⟩, .int .i64 0, .int .i64 0, .slice none 0 0, .int .u32 0, .int .i64 0, .slice none 0 0], .int .i64 now] w fun e w' => e = .returned (.int .i64 2) ∧ Below w.heap.size w w' := by
  have HOK := hid hok
  have HBL := hid ((Below.refl w.heap.size w).alloc (Nat.le_refl _) (.cells #[.int .i64 0, .int .i64 0, .int .i64 0, .int .i64 0, .string ⟨#[]⟩, .int .i64 0, .int .i64 0, .slice none 0 0, .int .u32 0, .int .i64 0, .slice none 0 0] 45))
  clear hok
  go_enter Try.func25, Try.ntmps25
  go_wp2_with (first | (go_at_call 59; refine (HOK.out _ HBL.out).mono ?_; rintro e w2 ⟨rfl, rfl⟩))
  go_ret
  exact ⟨rfl, HBL.out⟩
set_option maxRecDepth 100000 in
theorem cNoNext (now : Int) : Calls Try.prog 20 #[v, .int .i64 now] w fun e w' => e = .returned (.tuple #[.agg zeroPdu, .bool false]) ∧ Below w.heap.size w w' := by
  have HOK := hid hok
  have HA : Hid (Sts w [blkP w.heap.size (.cells zeroPdu 45 (0, 0))] (w.alloc (.cells #[.int .i64 0, .int .i64 0, .int .i64 0, .int .i64 0, .string ⟨#[]⟩, .int .i64 0, .int .i64 0, .slice none 0 0, .int .u32 0, .int .i64 0, .slice none 0 0] 45))) := hid ((Sts.nil w).alloc stab0 (.cells zeroPdu 45 (0, 0)))
  clear hok
  go_enter Try.func20, Try.ntmps20
  go_wp2_with (first | (go_at_call 59; refine (HOK.out _ HA.out.below).mono ?_; rintro e w2 ⟨rfl, rfl⟩) | (refine wpList_agg HA.out stab0 rfl (.tmp 4) (.tmp 9) 45 rfl zeroPdu rfl rfl sizePdu rfl rfl ?_; intro w5 hz; have HF := hid hz; clear hz))
  exact post_cell2 HF.out Try.results20 rfl rfl (ldPdu rfl HF.out) _ rfl ⟨rfl, HF.out.below⟩
end
end Go.Proofs.Ytfjadhkhmhnccaa
