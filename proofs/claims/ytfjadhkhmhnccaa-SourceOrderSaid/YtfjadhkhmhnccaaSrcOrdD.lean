/- SourceOrder: every input. -/
import Derived.Test.YtfjadhkhmhnccaaSrcOrdB
import Derived.Test.YtfjadhkhmhnccaaSrcOrdC
set_option linter.unusedVariables false
set_option linter.unusedSimpArgs false
namespace Go.Proofs.Ytfjadhkhmhnccaa
open Go.RowKit Go.Proofs.Num Go.ChangeShapes
section
variable (w : World) (src num cls chunk timeout retries : Int) (name : ByteArray) (vd vl : Value) (data : List Nat) (S : List Fil.Stp) (hd : RdB w vd data) (hS : StpsAt w vl S)
include hd hS
set_option maxRecDepth 100000 in
set_option maxHeartbeats 2000000 in
theorem order_big (hsm : Fil.smallB name.size data.length S = false) : Calls Try.prog 4 #[.agg #[.int .i64 src, .int .i64 num, .int .i64 cls, .string name, vd, .int .i64 chunk, .int .i64 timeout, .int .i64 retries, vl]] w fun e w' => e = .returned (.bool true) ∧ Below w.heap.size w w' := by
  have hbw := (Below.refl w.heap.size w).alloc (Nat.le_refl _) (.cells #[.int .i64 src, .int .i64 num, .int .i64 cls, .string name, vd, .int .i64 chunk, .int .i64 timeout, .int .i64 retries, vl] 29)
  have hsmall := cSmall (w.alloc (.cells #[.int .i64 src, .int .i64 num, .int .i64 cls, .string name, vd, .int .i64 chunk, .int .i64 timeout, .int .i64 retries, vl] 29)) src num cls chunk timeout retries name vd vl data S (hd.below hbw) (hS.below hbw)
  rw [hsm] at hsmall
  have HSM := hid hsmall
  have HB := hid hbw
  clear hsmall hbw hd hS hsm
  go_enter Try.func4, Try.ntmps4
  go_wp2_with (first | (go_at_call 13; refine HSM.out.mono ?_; rintro e w1 ⟨rfl, hb1⟩; have H1 := hid (HB.out.trans (hb1.mono HB.out.size)); clear hb1) | (go_at_call 14; refine (cLives27 _).mono ?_; rintro e w2 ⟨rfl, hb2⟩; have H2 := hid (H1.out.trans (hb2.mono H1.out.size)); clear hb2))
  go_ret
  exact ⟨rfl, H2.out⟩
set_option maxRecDepth 100000 in
set_option maxHeartbeats 2000000 in
theorem order_bad (hsm : Fil.smallB name.size data.length S = true) (hname : name.size ≤ 1000000) (hb : Fil.newB src num cls name data.length chunk timeout retries = false) : Calls Try.prog 4 #[.agg #[.int .i64 src, .int .i64 num, .int .i64 cls, .string name, vd, .int .i64 chunk, .int .i64 timeout, .int .i64 retries, vl]] w fun e w' => e = .returned (.bool true) ∧ Below w.heap.size w w' := by
  have hbw := (Below.refl w.heap.size w).alloc (Nat.le_refl _) (.cells #[.int .i64 src, .int .i64 num, .int .i64 cls, .string name, vd, .int .i64 chunk, .int .i64 timeout, .int .i64 retries, vl] 29)
  have hsmall := cSmall (w.alloc (.cells #[.int .i64 src, .int .i64 num, .int .i64 cls, .string name, vd, .int .i64 chunk, .int .i64 timeout, .int .i64 retries, vl] 29)) src num cls chunk timeout retries name vd vl data S (hd.below hbw) (hS.below hbw)
  rw [hsm] at hsmall
  have HSM := hid hsmall
  have H0 := hid ((Sts.nil w).alloc stab0 (.cells #[.int .i64 src, .int .i64 num, .int .i64 cls, .string name, vd, .int .i64 chunk, .int .i64 timeout, .int .i64 retries, vl] 29))
  have HD := hid hd
  have HNB := hid hb
  clear hsmall hbw hd hS hsm hb
  go_enter Try.func4, Try.ntmps4
  go_wp2_with (first | (go_at_call 13; refine HSM.out.mono ?_; rintro e w1 ⟨rfl, hb1⟩; have H1 := hid (H0.out.quiet (stab1 (blkP_stable _ _)) hb1); clear hb1; have q0 := (Sts.boxCell H1.out 0 _ rfl).1; have q1 := (Sts.boxCell H1.out 1 _ rfl).1; have q2 := (Sts.boxCell H1.out 2 _ rfl).1; have q3 := (Sts.boxCell H1.out 3 _ rfl).1; have q4 := (Sts.boxCell H1.out 4 _ rfl).1; have q5 := (Sts.boxCell H1.out 5 _ rfl).1; have q6 := (Sts.boxCell H1.out 6 _ rfl).1; have q7 := (Sts.boxCell H1.out 7 _ rfl).1))
  clear HSM H0 q0 q1 q2 q3 q4 q5 q6 q7
  refine (cNewBad (stab1 (blkP_stable _ _)) src num cls name vd data chunk timeout retries H1.out (RdsB.arg HD.out) hname HNB.out).mono ?_
  rintro e w2 ⟨rfl, h⟩
  have H2 := hid h.below
  clear h H1
  go_wp2_with (first | (go_at_call 14; refine (cLives27 _).mono ?_; rintro e w3 ⟨rfl, hb2⟩; have H3 := hid (H2.out.trans (hb2.mono H2.out.size)); clear hb2))
  go_ret
  exact ⟨rfl, H3.out⟩
theorem order_all : Calls Try.prog 4 #[.agg #[.int .i64 src, .int .i64 num, .int .i64 cls, .string name, vd, .int .i64 chunk, .int .i64 timeout, .int .i64 retries, vl]] w fun e w' => e = .returned (.bool true) ∧ Below w.heap.size w w' := by
  cases hsm : Fil.smallB name.size data.length S with
  | false => exact order_big w src num cls chunk timeout retries name vd vl data S hd hS hsm
  | true =>
    have hname : name.size ≤ 1000000 := by
      unfold Fil.smallB Fil.preB at hsm
      simp only [Bool.and_eq_true, Bool.not_eq_true', Bool.or_eq_false_iff, decide_eq_false_iff_not] at hsm
      omega
    cases hb : Fil.newB src num cls name data.length chunk timeout retries with
    | false => exact order_bad w src num cls chunk timeout retries name vd vl data S hd hS hsm hname hb
    | true =>
      obtain ⟨hG, hc⟩ := new_good src num cls name data chunk timeout retries hb hd.2
      obtain ⟨c, rfl⟩ : ∃ c : Nat, chunk = (c : Int) := ⟨chunk.toNat, by have := hG.c; have e : (newSrc src num cls name data chunk timeout retries).chunk = chunk := rfl; rw [e] at this; omega⟩
      rcases hc with rfl | rfl
      · exact order_main1 w src num timeout retries c name vd vl data S hd hS hsm hname hb
      · exact order_main2 w src num timeout retries c name vd vl data S hd hS hsm hname hb
end
end Go.Proofs.Ytfjadhkhmhnccaa
