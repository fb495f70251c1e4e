/- The courier's law on nil entities: the kernel runs it, by the evaluator, whatever the numbers and the unit. -/
import Derived.Test.YtgidckkcibplgaaGreatCnlA
import Derived.Test.YtgidckkcibplgaaGreatCnlO
set_option linter.unusedVariables false
namespace Go.Proofs.YtgidckkcibplgaaGreat
open Go.Ev
def nilUnit (lo hi : Nat) : V := .agg [.opq, .opq, .opq, .opq, .opq, .opq, .opq, .usl lo hi, .opq, .opq, .opq]
set_option maxRecDepth 1000000 in
theorem nilShort : okB (callV 5 [.opq, .opq, nilUnit 0 600] Tryz.prog couPr (run Tryz.prog couPr 100000) bare 0 kid) = true := by kernel_rfl
set_option maxRecDepth 1000000 in
theorem nilLong : okB (callV 5 [.opq, .opq, nilUnit 601 9223372036854775807] Tryz.prog couPr (run Tryz.prog couPr 100000) bare 0 kid) = true := by kernel_rfl
theorem cCourierNil (w : World) (n now kind src num cls : Int) (name : ByteArray) (size off : Int) (da : Option Addr) (dl dc : Nat) (sum code : Int) (ga : Option Addr) (gl gc : Nat) (hd : dl ≤ maxLen) :
    Calls Tryz.prog 5 #[.int .i64 n, .int .i64 now, .agg #[.int .i64 kind, .int .i64 src, .int .i64 num, .int .i64 cls, .string name, .int .i64 size, .int .i64 off, .slice da dl dc, .int .u32 sum, .int .i64 code, .slice ga gl gc]] w
      fun e w' => e = .returned (.bool true) ∧ Go.RowKit.Below w.heap.size w w' := by
  have oi : ∀ k m, VR (fun _ => none) .opq (.int k m) := fun k m => .opq rfl (by simp)
  have os : ∀ s, VR (fun _ => none) .opq (.string s) := fun s => .opq rfl (by simp)
  have ol : ∀ a l c, VR (fun _ => none) .opq (.slice a l c) := fun a l c => .opq rfl (by simp)
  have hu : ∀ lo hi, lo ≤ dl → dl ≤ hi → VRs (fun _ => none) [.opq, .opq, nilUnit lo hi] [.int .i64 n, .int .i64 now, .agg #[.int .i64 kind, .int .i64 src, .int .i64 num, .int .i64 cls, .string name, .int .i64 size, .int .i64 off, .slice da dl dc, .int .u32 sum, .int .i64 code, .slice ga gl gc]] := fun lo hi h1 h2 =>
    .cons (oi _ _) (.cons (oi _ _) (.cons (.agg (.cons (oi _ _) (.cons (oi _ _) (.cons (oi _ _) (.cons (oi _ _) (.cons (os _) (.cons (oi _ _) (.cons (oi _ _) (.cons (.usl h1 h2) (.cons (oi _ _) (.cons (oi _ _) (.cons (ol _ _ _) .nil)))))))))))) .nil))
  have hm : maxLen = 9223372036854775807 := by decide
  rcases Nat.lt_or_ge 600 dl with h | h
  · exact open_ok mixedCou couPr_ok 100000 5 _ nilLong w _ (hu _ _ h (hm ▸ hd))
  · exact open_ok mixedCou couPr_ok 100000 5 _ nilShort w _ (hu _ _ (Nat.zero_le _) h)
end Go.Proofs.YtgidckkcibplgaaGreat
