/- The station's parts when they are new: the contracts of the constructors. -/
import Derived.Test.YtafoihbkhgnecaaGreatProg
import Derived.Test.YtafoihbkhgnecaaGreatStepS
import Derived.WalkKit
import Derived.Carry
set_option linter.unusedVariables false
set_option linter.unusedSimpArgs false
namespace Go.Proofs.YtafoihbkhgnecaaGreat
open Go.RowKit Go.Proofs.Num
theorem exec_ldS {o : Oper} {a : Act} {w : World} {b j : Nat} (x : Operand) (t : TypeId) (ho : o.op = .load t x) (hx : a.eval x = .pointer (some ⟨b, j, none⟩)) {v : Value}
    (hld : (loadVar t ⟨b, j, none⟩).run Tryz.prog w = .ok v w) : (execOp a.eval o).run Tryz.prog w = .ok (.value v) w := by
  unfold execOp
  simp only [ho, hx]
  have h1 : (Instr.loadAt t (.pointer (some ⟨b, j, none⟩))).run Tryz.prog w = .ok v w := by
    simp only [Instr.loadAt, Instr.sureAddr]
    simp [Sem.run_bind, asAddr, hld, Result.andThen]
  simp [Sem.run_bind, h1, Result.andThen]
theorem wpList_ldS {ops : Array Oper} {rest : List Oper} {o : Oper} {a : Act} {Q : Exit → Act → World → Prop} {w : World} {b j : Nat} (hgd : o.guard = none) (x : Operand) (t : TypeId) (ho : o.op = .load t x) (hx : a.eval x = .pointer (some ⟨b, j, none⟩)) (v : Value)
    (hld : (loadVar t ⟨b, j, none⟩).run Tryz.prog w = .ok v w) (h : wpList Tryz.prog ops Q rest (a.put o.dst v) w) : wpList Tryz.prog ops Q (o :: rest) a w := by
  refine wpList_plain hgd fun K hK => ?_
  have hr : (execOp a.eval o).run Tryz.prog w = .ok (.value v) w := by
    unfold execOp
    simp only [ho, hx]
    have h1 : (Instr.loadAt t (.pointer (some ⟨b, j, none⟩))).run Tryz.prog w = .ok v w := by
      simp only [Instr.loadAt, Instr.sureAddr]
      simp [Sem.run_bind, asAddr, hld, Result.andThen]
    simp [Sem.run_bind, h1, Result.andThen]
  unfold Oper.wp
  rw [hr]
  exact hK _ _ h
set_option maxRecDepth 100000 in
theorem cFopW (w : World) (n lo hi : Int) (h1 : lo ≤ n) (h2 : n ≤ hi) : Calls Tryz.prog 40 #[.int .i64 n, .int .i64 lo, .int .i64 hi] w fun e w' => e = .returned (.int .i64 n) ∧ w = w' := by
  have m1 : max n lo = n := by omega
  have m2 : min n hi = n := by omega
  clear h1 h2
  go_enter Tryz.func40, Tryz.ntmps40
  go_wp2_with fail
  go_ret
  exact ⟨rfl, rfl⟩
section
variable {W w : World} {l : List HProp} (hl : ∀ B ∈ l, Stable B) (hs : Sts W l w)
include hl hs
set_option maxRecDepth 100000 in
theorem cTrkNew (T : Int) (h1 : 1 ≤ T) (h2 : T ≤ 1099511627776) : Calls Tryz.prog 15 #[.int .i64 T] w fun e w' => ∃ q, e = .returned (.pointer (some ⟨q, 0, none⟩)) ∧ Sts W (blkP q (.cells #[.bool true, .int .i64 0, .int .i64 T, .slice none 0 0] 98 (0, 0)) :: l) w' := by
  have H0 := hid (hs.alloc hl (.cells #[.bool true, .int .i64 0, .int .i64 T, .slice none 0 0] 98))
  have m1 : max T 1 = T := by omega
  have m2 : min T 1099511627776 = T := by omega
  clear hs h1 h2
  go_enter Tryz.func15, Tryz.ntmps15
  go_wp2_with fail
  go_ret
  exact ⟨_, rfl, H0.out⟩
set_option maxRecDepth 100000 in
theorem cArcNew : Calls Tryz.prog 38 #[] w fun e w' => ∃ q, e = .returned (.pointer (some ⟨q, 0, none⟩)) ∧ Sts W (blkP q (.cells #[.bool true, .slice none 0 0] 175 (0, 0)) :: l) w' := by
  have H0 := hid (hs.alloc hl (.cells #[.bool true, .slice none 0 0] 175))
  clear hs
  go_enter Tryz.func38, Tryz.ntmps38
  go_wp2_with fail
  go_ret
  exact ⟨_, rfl, H0.out⟩
set_option maxRecDepth 100000 in
theorem cUnpNew : Calls Tryz.prog 39 #[] w fun e w' => ∃ q, e = .returned (.pointer (some ⟨q, 0, none⟩)) ∧ Sts W (blkP q (.cells #[.bool true, .bool false, .bool false, .int .i64 0, .int .i64 0, .slice none 0 0] 187 (0, 0)) :: l) w' := by
  have H0 := hid (hs.alloc hl (.cells #[.bool true, .bool false, .bool false, .int .i64 0, .int .i64 0, .slice none 0 0] 187))
  clear hs
  go_enter Tryz.func39, Tryz.ntmps39
  go_wp2_with fail
  go_ret
  exact ⟨_, rfl, H0.out⟩
set_option maxRecDepth 100000 in
theorem cBitNew : Calls Tryz.prog 105 #[] w fun e w' => ∃ q, e = .returned (.pointer (some ⟨q, 0, none⟩)) ∧ Sts W (blkP q (.cells #[.bool true, .slice none 0 0, .int .i64 0] 249 (0, 0)) :: l) w' := by
  have H0 := hid (hs.alloc hl (.cells #[.bool true, .slice none 0 0, .int .i64 0] 249))
  clear hs
  go_enter Tryz.func105, Tryz.ntmps105
  go_wp2_with fail
  go_ret
  exact ⟨_, rfl, H0.out⟩
set_option maxRecDepth 100000 in
theorem cOctNew : Calls Tryz.prog 42 #[] w fun e w' => ∃ q, e = .returned (.pointer (some ⟨q, 0, none⟩)) ∧ Sts W (blkP q (.cells #[.bool true, .slice none 0 0] 189 (0, 0)) :: l) w' := by
  have H0 := hid (hs.alloc hl (.cells #[.bool true, .slice none 0 0] 189))
  clear hs
  go_enter Tryz.func42, Tryz.ntmps42
  go_wp2_with fail
  go_ret
  exact ⟨_, rfl, H0.out⟩
set_option maxRecDepth 100000 in
theorem cFinNew (z : Int) (h1 : 1 ≤ z) (h2 : z ≤ 1024) : Calls Tryz.prog 37 #[.int .i64 z] w fun e w' => ∃ q, e = .returned (.pointer (some ⟨q, 0, none⟩)) ∧ Sts W (blkP q (.cells #[.int .i64 z, .int .i64 0, .slice none 0 0] 127 (0, 0)) :: l) w' := by
  have H0 := hid (hs.alloc hl (.cells #[.int .i64 z, .int .i64 0, .slice none 0 0] 127))
  have d1 : decide (z < 1) = false := decide_eq_false (by omega)
  have d2 : decide (1024 < z) = false := decide_eq_false (by omega)
  clear hs h1 h2
  go_enter Tryz.func37, Tryz.ntmps37
  go_wp2_with fail
  go_ret
  exact ⟨_, rfl, H0.out⟩
set_option maxRecDepth 100000 in
set_option maxHeartbeats 2000000 in
/-- The sending end of the uplink, at arguments in their ranges. -/
theorem cFopNew (craft chan size to re : Int) (h1 : 0 ≤ craft ∧ craft ≤ 1023) (h2 : 0 ≤ chan ∧ chan ≤ 7) (h3 : 1 ≤ size ∧ size ≤ 127) (h4 : 1 ≤ to ∧ to ≤ 1099511627776) (h5 : 0 ≤ re ∧ re ≤ 255) :
    Calls Tryz.prog 16 #[.int .i64 craft, .int .i64 chan, .int .i64 size, .int .i64 to, .int .i64 re] w fun e w' => ∃ q, e = .returned (.pointer (some ⟨q, 0, none⟩)) ∧
      Sts W (blkP q (.cells #[.int .i64 size, .slice none 0 0, .int .i64 0, .int .i64 0, .int .i64 0, .bool true, .int .i64 craft, .int .i64 chan, .int .i64 to, .int .i64 re, .int .i64 1, .slice none 0 0, .int .i64 0, .int .i64 0, .int .i64 0] 104 (0, 0)) :: l) w' := by
  have H0 := hid (hs.alloc hl (.cells #[.int .i64 size, .slice none 0 0, .int .i64 0, .int .i64 0, .int .i64 0, .bool true, .int .i64 craft, .int .i64 chan, .int .i64 to, .int .i64 re, .int .i64 1, .slice none 0 0, .int .i64 0, .int .i64 0, .int .i64 0] 104))
  clear hs
  go_enter Tryz.func16, Tryz.ntmps16
  go_wp2_with (first | (go_at_call 40; refine (cFopW _ _ _ _ (by omega) (by omega)).mono ?_; rintro e w2 ⟨rfl, rfl⟩))
  go_ret
  exact ⟨_, rfl, H0.out⟩
end
end Go.Proofs.YtafoihbkhgnecaaGreat
