/- The specification's Valid, kinds (1, 2). -/
import Derived.Test.YtfjadhkhmhnccaaStaA
import Derived.Test.YtfjadhkhmhnccaaRefGap
set_option linter.unusedVariables false
set_option linter.unusedSimpArgs false
namespace Go.Proofs.Ytfjadhkhmhnccaa
open Go.RowKit Go.Proofs.Num
set_option maxRecDepth 100000 in
set_option maxHeartbeats 4000000 in
theorem cRefVal1 (w : World) (src num cls : Int) (name : ByteArray) (size off : Int) (da : Option Addr) (dl dc : Nat) (D G : Int) (hD : (dl : Int) = D) (S code : Int) (ga : Option Addr) (gc : Nat) (gl : Nat) (hG : (gl : Int) = G) (hs : name.size ≤ 1000000) (hdata : 0 ≤ D ∧ D < 1000000000) :
    Calls Try.prog 57 #[.agg #[.int .i64 1, .int .i64 src, .int .i64 num, .int .i64 cls, .string name, .int .i64 size, .int .i64 off, .slice da dl dc, .int .u32 S, .int .i64 code, .slice ga gl gc]] w fun e w' => e = .returned (.bool (!decide (src < 0) && !decide (src > 15) && !decide (num < 0) && !decide (num > 65535) && !decide (cls < 1) && !decide (cls > 2) && !decide (size < 0) && !decide (size > 65536) && Fil.nameB name && !(code != 0) && !(S != 0) && !decide (G > 0) && (off == 0) && (D == 0))) ∧ Below w.heap.size w w' := by
  have HB := hid ((Below.refl w.heap.size w).alloc (Nat.le_refl _) (.cells #[.int .i64 1, .int .i64 src, .int .i64 num, .int .i64 cls, .string name, .int .i64 size, .int .i64 off, .slice da dl dc, .int .u32 S, .int .i64 code, .slice ga gl gc] 45))
  have HNM := fun w => hid (cNamed w name hs)
  clear hs
  rcases Bool.eq_false_or_eq_true (decide (src < 0)) with q0 | q0
  skip
  · simp only [q0, Bool.not_true, Bool.not_false, Bool.true_and, Bool.false_and]
    go_enter Try.func57, Try.ntmps57
    go_wp2_with (first | (go_at_call 102; refine (cclassedK _ _).mono ?_; rintro e w2 ⟨rfl, rfl⟩; rw [show classedB 1 = true from rfl]) | (go_at_call 104; refine (ccodedK _ _).mono ?_; rintro e w2 ⟨rfl, rfl⟩; rw [show codedB 1 = false from rfl]) | (go_at_call 103; refine (HNM _).out.mono ?_; rintro e w2 ⟨rfl, rfl⟩; rw [qN]))
    go_ret
    exact ⟨rfl, HB.out⟩
  simp only [q0, Bool.not_true, Bool.not_false, Bool.true_and]
  rcases Bool.eq_false_or_eq_true (decide (src > 15)) with q1 | q1
  skip
  · simp only [q1, Bool.not_true, Bool.not_false, Bool.true_and, Bool.false_and]
    go_enter Try.func57, Try.ntmps57
    go_wp2_with (first | (go_at_call 102; refine (cclassedK _ _).mono ?_; rintro e w2 ⟨rfl, rfl⟩; rw [show classedB 1 = true from rfl]) | (go_at_call 104; refine (ccodedK _ _).mono ?_; rintro e w2 ⟨rfl, rfl⟩; rw [show codedB 1 = false from rfl]) | (go_at_call 103; refine (HNM _).out.mono ?_; rintro e w2 ⟨rfl, rfl⟩; rw [qN]))
    go_ret
    exact ⟨rfl, HB.out⟩
  simp only [q1, Bool.not_true, Bool.not_false, Bool.true_and]
  rcases Bool.eq_false_or_eq_true (decide (num < 0)) with q2 | q2
  skip
  · simp only [q2, Bool.not_true, Bool.not_false, Bool.true_and, Bool.false_and]
    go_enter Try.func57, Try.ntmps57
    go_wp2_with (first | (go_at_call 102; refine (cclassedK _ _).mono ?_; rintro e w2 ⟨rfl, rfl⟩; rw [show classedB 1 = true from rfl]) | (go_at_call 104; refine (ccodedK _ _).mono ?_; rintro e w2 ⟨rfl, rfl⟩; rw [show codedB 1 = false from rfl]) | (go_at_call 103; refine (HNM _).out.mono ?_; rintro e w2 ⟨rfl, rfl⟩; rw [qN]))
    go_ret
    exact ⟨rfl, HB.out⟩
  simp only [q2, Bool.not_true, Bool.not_false, Bool.true_and]
  rcases Bool.eq_false_or_eq_true (decide (num > 65535)) with q3 | q3
  skip
  · simp only [q3, Bool.not_true, Bool.not_false, Bool.true_and, Bool.false_and]
    go_enter Try.func57, Try.ntmps57
    go_wp2_with (first | (go_at_call 102; refine (cclassedK _ _).mono ?_; rintro e w2 ⟨rfl, rfl⟩; rw [show classedB 1 = true from rfl]) | (go_at_call 104; refine (ccodedK _ _).mono ?_; rintro e w2 ⟨rfl, rfl⟩; rw [show codedB 1 = false from rfl]) | (go_at_call 103; refine (HNM _).out.mono ?_; rintro e w2 ⟨rfl, rfl⟩; rw [qN]))
    go_ret
    exact ⟨rfl, HB.out⟩
  simp only [q3, Bool.not_true, Bool.not_false, Bool.true_and]
  rcases Bool.eq_false_or_eq_true (decide (cls < 1)) with q4 | q4
  skip
  · simp only [q4, Bool.not_true, Bool.not_false, Bool.true_and, Bool.false_and]
    go_enter Try.func57, Try.ntmps57
    go_wp2_with (first | (go_at_call 102; refine (cclassedK _ _).mono ?_; rintro e w2 ⟨rfl, rfl⟩; rw [show classedB 1 = true from rfl]) | (go_at_call 104; refine (ccodedK _ _).mono ?_; rintro e w2 ⟨rfl, rfl⟩; rw [show codedB 1 = false from rfl]) | (go_at_call 103; refine (HNM _).out.mono ?_; rintro e w2 ⟨rfl, rfl⟩; rw [qN]))
    go_ret
    exact ⟨rfl, HB.out⟩
  simp only [q4, Bool.not_true, Bool.not_false, Bool.true_and]
  rcases Bool.eq_false_or_eq_true (decide (cls > 2)) with q5 | q5
  skip
  · simp only [q5, Bool.not_true, Bool.not_false, Bool.true_and, Bool.false_and]
    go_enter Try.func57, Try.ntmps57
    go_wp2_with (first | (go_at_call 102; refine (cclassedK _ _).mono ?_; rintro e w2 ⟨rfl, rfl⟩; rw [show classedB 1 = true from rfl]) | (go_at_call 104; refine (ccodedK _ _).mono ?_; rintro e w2 ⟨rfl, rfl⟩; rw [show codedB 1 = false from rfl]) | (go_at_call 103; refine (HNM _).out.mono ?_; rintro e w2 ⟨rfl, rfl⟩; rw [qN]))
    go_ret
    exact ⟨rfl, HB.out⟩
  simp only [q5, Bool.not_true, Bool.not_false, Bool.true_and]
  rcases Bool.eq_false_or_eq_true (decide (size < 0)) with q6 | q6
  skip
  · simp only [q6, Bool.not_true, Bool.not_false, Bool.true_and, Bool.false_and]
    go_enter Try.func57, Try.ntmps57
    go_wp2_with (first | (go_at_call 102; refine (cclassedK _ _).mono ?_; rintro e w2 ⟨rfl, rfl⟩; rw [show classedB 1 = true from rfl]) | (go_at_call 104; refine (ccodedK _ _).mono ?_; rintro e w2 ⟨rfl, rfl⟩; rw [show codedB 1 = false from rfl]) | (go_at_call 103; refine (HNM _).out.mono ?_; rintro e w2 ⟨rfl, rfl⟩; rw [qN]))
    go_ret
    exact ⟨rfl, HB.out⟩
  simp only [q6, Bool.not_true, Bool.not_false, Bool.true_and]
  rcases Bool.eq_false_or_eq_true (decide (size > 65536)) with q7 | q7
  skip
  · simp only [q7, Bool.not_true, Bool.not_false, Bool.true_and, Bool.false_and]
    go_enter Try.func57, Try.ntmps57
    go_wp2_with (first | (go_at_call 102; refine (cclassedK _ _).mono ?_; rintro e w2 ⟨rfl, rfl⟩; rw [show classedB 1 = true from rfl]) | (go_at_call 104; refine (ccodedK _ _).mono ?_; rintro e w2 ⟨rfl, rfl⟩; rw [show codedB 1 = false from rfl]) | (go_at_call 103; refine (HNM _).out.mono ?_; rintro e w2 ⟨rfl, rfl⟩; rw [qN]))
    go_ret
    exact ⟨rfl, HB.out⟩
  simp only [q7, Bool.not_true, Bool.not_false, Bool.true_and]
  rcases Bool.eq_false_or_eq_true (Fil.nameB name) with qN | qN
  rotate_left
  · simp only [qN, Bool.not_true, Bool.not_false, Bool.true_and, Bool.false_and]
    go_enter Try.func57, Try.ntmps57
    go_wp2_with (first | (go_at_call 102; refine (cclassedK _ _).mono ?_; rintro e w2 ⟨rfl, rfl⟩; rw [show classedB 1 = true from rfl]) | (go_at_call 104; refine (ccodedK _ _).mono ?_; rintro e w2 ⟨rfl, rfl⟩; rw [show codedB 1 = false from rfl]) | (go_at_call 103; refine (HNM _).out.mono ?_; rintro e w2 ⟨rfl, rfl⟩; rw [qN]))
    go_ret
    exact ⟨rfl, HB.out⟩
  simp only [qN, Bool.not_true, Bool.not_false, Bool.true_and]
  rcases Bool.eq_false_or_eq_true ((code != 0)) with q9 | q9
  skip
  · simp only [q9, Bool.not_true, Bool.not_false, Bool.true_and, Bool.false_and]
    go_enter Try.func57, Try.ntmps57
    go_wp2_with (first | (go_at_call 102; refine (cclassedK _ _).mono ?_; rintro e w2 ⟨rfl, rfl⟩; rw [show classedB 1 = true from rfl]) | (go_at_call 104; refine (ccodedK _ _).mono ?_; rintro e w2 ⟨rfl, rfl⟩; rw [show codedB 1 = false from rfl]) | (go_at_call 103; refine (HNM _).out.mono ?_; rintro e w2 ⟨rfl, rfl⟩; rw [qN]))
    go_ret
    exact ⟨rfl, HB.out⟩
  simp only [q9, Bool.not_true, Bool.not_false, Bool.true_and]
  rcases Bool.eq_false_or_eq_true ((S != 0)) with q10 | q10
  skip
  · simp only [q10, Bool.not_true, Bool.not_false, Bool.true_and, Bool.false_and]
    go_enter Try.func57, Try.ntmps57
    go_wp2_with (first | (go_at_call 102; refine (cclassedK _ _).mono ?_; rintro e w2 ⟨rfl, rfl⟩; rw [show classedB 1 = true from rfl]) | (go_at_call 104; refine (ccodedK _ _).mono ?_; rintro e w2 ⟨rfl, rfl⟩; rw [show codedB 1 = false from rfl]) | (go_at_call 103; refine (HNM _).out.mono ?_; rintro e w2 ⟨rfl, rfl⟩; rw [qN]))
    go_ret
    exact ⟨rfl, HB.out⟩
  simp only [q10, Bool.not_true, Bool.not_false, Bool.true_and]
  rcases Bool.eq_false_or_eq_true (decide (G > 0)) with q11 | q11
  skip
  · simp only [q11, Bool.not_true, Bool.not_false, Bool.true_and, Bool.false_and]
    go_enter Try.func57, Try.ntmps57
    go_wp2_with (first | (go_at_call 102; refine (cclassedK _ _).mono ?_; rintro e w2 ⟨rfl, rfl⟩; rw [show classedB 1 = true from rfl]) | (go_at_call 104; refine (ccodedK _ _).mono ?_; rintro e w2 ⟨rfl, rfl⟩; rw [show codedB 1 = false from rfl]) | (go_at_call 103; refine (HNM _).out.mono ?_; rintro e w2 ⟨rfl, rfl⟩; rw [qN]))
    go_ret
    exact ⟨rfl, HB.out⟩
  simp only [q11, Bool.not_true, Bool.not_false, Bool.true_and]
  rcases Bool.eq_false_or_eq_true ((off == 0)) with q12 | q12
  rotate_left
  · simp only [q12, Bool.not_true, Bool.not_false, Bool.true_and, Bool.false_and]
    go_enter Try.func57, Try.ntmps57
    go_wp2_with (first | (go_at_call 102; refine (cclassedK _ _).mono ?_; rintro e w2 ⟨rfl, rfl⟩; rw [show classedB 1 = true from rfl]) | (go_at_call 104; refine (ccodedK _ _).mono ?_; rintro e w2 ⟨rfl, rfl⟩; rw [show codedB 1 = false from rfl]) | (go_at_call 103; refine (HNM _).out.mono ?_; rintro e w2 ⟨rfl, rfl⟩; rw [qN]))
    go_ret
    exact ⟨rfl, HB.out⟩
  simp only [q12, Bool.not_true, Bool.not_false, Bool.true_and]
  rcases Bool.eq_false_or_eq_true ((D == 0)) with q13 | q13
  all_goals
    simp only [q13]
    go_enter Try.func57, Try.ntmps57
    go_wp2_with (first | (go_at_call 102; refine (cclassedK _ _).mono ?_; rintro e w2 ⟨rfl, rfl⟩; rw [show classedB 1 = true from rfl]) | (go_at_call 104; refine (ccodedK _ _).mono ?_; rintro e w2 ⟨rfl, rfl⟩; rw [show codedB 1 = false from rfl]) | (go_at_call 103; refine (HNM _).out.mono ?_; rintro e w2 ⟨rfl, rfl⟩; rw [qN]))
    go_ret
    exact ⟨rfl, HB.out⟩
set_option maxRecDepth 100000 in
set_option maxHeartbeats 4000000 in
theorem cRefVal2 (w : World) (src num cls : Int) (name : ByteArray) (size off : Int) (da : Option Addr) (dl dc : Nat) (D G : Int) (hD : (dl : Int) = D) (S code : Int) (ga : Option Addr) (gc : Nat) (gl : Nat) (hG : (gl : Int) = G) (hs : name.size ≤ 1000000) (hdata : 0 ≤ D ∧ D < 1000000000) :
    Calls Try.prog 57 #[.agg #[.int .i64 2, .int .i64 src, .int .i64 num, .int .i64 cls, .string name, .int .i64 size, .int .i64 off, .slice da dl dc, .int .u32 S, .int .i64 code, .slice ga gl gc]] w fun e w' => e = .returned (.bool (!decide (src < 0) && !decide (src > 15) && !decide (num < 0) && !decide (num > 65535) && !(cls != 0) && !(size != 0) && name.toList.isEmpty && !(code != 0) && !(S != 0) && !decide (G > 0) && decide (D ≥ 1) && decide (D ≤ 512) && decide (off ≥ 0) && decide (off ≤ 65536 - D))) ∧ Below w.heap.size w w' := by
  have HB := hid ((Below.refl w.heap.size w).alloc (Nat.le_refl _) (.cells #[.int .i64 2, .int .i64 src, .int .i64 num, .int .i64 cls, .string name, .int .i64 size, .int .i64 off, .slice da dl dc, .int .u32 S, .int .i64 code, .slice ga gl gc] 45))
  clear hs
  rcases Bool.eq_false_or_eq_true (decide (src < 0)) with q0 | q0
  skip
  · simp only [q0, Bool.not_true, Bool.not_false, Bool.true_and, Bool.false_and]
    go_enter Try.func57, Try.ntmps57
    go_wp2_with (first | (go_at_call 102; refine (cclassedK _ _).mono ?_; rintro e w2 ⟨rfl, rfl⟩; rw [show classedB 2 = false from rfl]) | (go_at_call 104; refine (ccodedK _ _).mono ?_; rintro e w2 ⟨rfl, rfl⟩; rw [show codedB 2 = false from rfl]))
    go_ret
    exact ⟨rfl, HB.out⟩
  simp only [q0, Bool.not_true, Bool.not_false, Bool.true_and]
  rcases Bool.eq_false_or_eq_true (decide (src > 15)) with q1 | q1
  skip
  · simp only [q1, Bool.not_true, Bool.not_false, Bool.true_and, Bool.false_and]
    go_enter Try.func57, Try.ntmps57
    go_wp2_with (first | (go_at_call 102; refine (cclassedK _ _).mono ?_; rintro e w2 ⟨rfl, rfl⟩; rw [show classedB 2 = false from rfl]) | (go_at_call 104; refine (ccodedK _ _).mono ?_; rintro e w2 ⟨rfl, rfl⟩; rw [show codedB 2 = false from rfl]))
    go_ret
    exact ⟨rfl, HB.out⟩
  simp only [q1, Bool.not_true, Bool.not_false, Bool.true_and]
  rcases Bool.eq_false_or_eq_true (decide (num < 0)) with q2 | q2
  skip
  · simp only [q2, Bool.not_true, Bool.not_false, Bool.true_and, Bool.false_and]
    go_enter Try.func57, Try.ntmps57
    go_wp2_with (first | (go_at_call 102; refine (cclassedK _ _).mono ?_; rintro e w2 ⟨rfl, rfl⟩; rw [show classedB 2 = false from rfl]) | (go_at_call 104; refine (ccodedK _ _).mono ?_; rintro e w2 ⟨rfl, rfl⟩; rw [show codedB 2 = false from rfl]))
    go_ret
    exact ⟨rfl, HB.out⟩
  simp only [q2, Bool.not_true, Bool.not_false, Bool.true_and]
  rcases Bool.eq_false_or_eq_true (decide (num > 65535)) with q3 | q3
  skip
  · simp only [q3, Bool.not_true, Bool.not_false, Bool.true_and, Bool.false_and]
    go_enter Try.func57, Try.ntmps57
    go_wp2_with (first | (go_at_call 102; refine (cclassedK _ _).mono ?_; rintro e w2 ⟨rfl, rfl⟩; rw [show classedB 2 = false from rfl]) | (go_at_call 104; refine (ccodedK _ _).mono ?_; rintro e w2 ⟨rfl, rfl⟩; rw [show codedB 2 = false from rfl]))
    go_ret
    exact ⟨rfl, HB.out⟩
  simp only [q3, Bool.not_true, Bool.not_false, Bool.true_and]
  rcases Bool.eq_false_or_eq_true ((cls != 0)) with q4 | q4
  skip
  · simp only [q4, Bool.not_true, Bool.not_false, Bool.true_and, Bool.false_and]
    go_enter Try.func57, Try.ntmps57
    go_wp2_with (first | (go_at_call 102; refine (cclassedK _ _).mono ?_; rintro e w2 ⟨rfl, rfl⟩; rw [show classedB 2 = false from rfl]) | (go_at_call 104; refine (ccodedK _ _).mono ?_; rintro e w2 ⟨rfl, rfl⟩; rw [show codedB 2 = false from rfl]))
    go_ret
    exact ⟨rfl, HB.out⟩
  simp only [q4, Bool.not_true, Bool.not_false, Bool.true_and]
  rcases Bool.eq_false_or_eq_true ((size != 0)) with q5 | q5
  skip
  · simp only [q5, Bool.not_true, Bool.not_false, Bool.true_and, Bool.false_and]
    go_enter Try.func57, Try.ntmps57
    go_wp2_with (first | (go_at_call 102; refine (cclassedK _ _).mono ?_; rintro e w2 ⟨rfl, rfl⟩; rw [show classedB 2 = false from rfl]) | (go_at_call 104; refine (ccodedK _ _).mono ?_; rintro e w2 ⟨rfl, rfl⟩; rw [show codedB 2 = false from rfl]))
    go_ret
    exact ⟨rfl, HB.out⟩
  simp only [q5, Bool.not_true, Bool.not_false, Bool.true_and]
  rcases Bool.eq_false_or_eq_true (name.toList.isEmpty) with q6 | q6
  rotate_left
  · simp only [q6, Bool.not_true, Bool.not_false, Bool.true_and, Bool.false_and]
    go_enter Try.func57, Try.ntmps57
    go_wp2_with (first | (go_at_call 102; refine (cclassedK _ _).mono ?_; rintro e w2 ⟨rfl, rfl⟩; rw [show classedB 2 = false from rfl]) | (go_at_call 104; refine (ccodedK _ _).mono ?_; rintro e w2 ⟨rfl, rfl⟩; rw [show codedB 2 = false from rfl]))
    go_ret
    exact ⟨rfl, HB.out⟩
  simp only [q6, Bool.not_true, Bool.not_false, Bool.true_and]
  rcases Bool.eq_false_or_eq_true ((code != 0)) with q7 | q7
  skip
  · simp only [q7, Bool.not_true, Bool.not_false, Bool.true_and, Bool.false_and]
    go_enter Try.func57, Try.ntmps57
    go_wp2_with (first | (go_at_call 102; refine (cclassedK _ _).mono ?_; rintro e w2 ⟨rfl, rfl⟩; rw [show classedB 2 = false from rfl]) | (go_at_call 104; refine (ccodedK _ _).mono ?_; rintro e w2 ⟨rfl, rfl⟩; rw [show codedB 2 = false from rfl]))
    go_ret
    exact ⟨rfl, HB.out⟩
  simp only [q7, Bool.not_true, Bool.not_false, Bool.true_and]
  rcases Bool.eq_false_or_eq_true ((S != 0)) with q8 | q8
  skip
  · simp only [q8, Bool.not_true, Bool.not_false, Bool.true_and, Bool.false_and]
    go_enter Try.func57, Try.ntmps57
    go_wp2_with (first | (go_at_call 102; refine (cclassedK _ _).mono ?_; rintro e w2 ⟨rfl, rfl⟩; rw [show classedB 2 = false from rfl]) | (go_at_call 104; refine (ccodedK _ _).mono ?_; rintro e w2 ⟨rfl, rfl⟩; rw [show codedB 2 = false from rfl]))
    go_ret
    exact ⟨rfl, HB.out⟩
  simp only [q8, Bool.not_true, Bool.not_false, Bool.true_and]
  rcases Bool.eq_false_or_eq_true (decide (G > 0)) with q9 | q9
  skip
  · simp only [q9, Bool.not_true, Bool.not_false, Bool.true_and, Bool.false_and]
    go_enter Try.func57, Try.ntmps57
    go_wp2_with (first | (go_at_call 102; refine (cclassedK _ _).mono ?_; rintro e w2 ⟨rfl, rfl⟩; rw [show classedB 2 = false from rfl]) | (go_at_call 104; refine (ccodedK _ _).mono ?_; rintro e w2 ⟨rfl, rfl⟩; rw [show codedB 2 = false from rfl]))
    go_ret
    exact ⟨rfl, HB.out⟩
  simp only [q9, Bool.not_true, Bool.not_false, Bool.true_and]
  rcases Bool.eq_false_or_eq_true (decide (D ≥ 1)) with q10 | q10
  rotate_left
  · simp only [q10, Bool.not_true, Bool.not_false, Bool.true_and, Bool.false_and]
    go_enter Try.func57, Try.ntmps57
    go_wp2_with (first | (go_at_call 102; refine (cclassedK _ _).mono ?_; rintro e w2 ⟨rfl, rfl⟩; rw [show classedB 2 = false from rfl]) | (go_at_call 104; refine (ccodedK _ _).mono ?_; rintro e w2 ⟨rfl, rfl⟩; rw [show codedB 2 = false from rfl]))
    go_ret
    exact ⟨rfl, HB.out⟩
  simp only [q10, Bool.not_true, Bool.not_false, Bool.true_and]
  rcases Bool.eq_false_or_eq_true (decide (D ≤ 512)) with q11 | q11
  rotate_left
  · simp only [q11, Bool.not_true, Bool.not_false, Bool.true_and, Bool.false_and]
    go_enter Try.func57, Try.ntmps57
    go_wp2_with (first | (go_at_call 102; refine (cclassedK _ _).mono ?_; rintro e w2 ⟨rfl, rfl⟩; rw [show classedB 2 = false from rfl]) | (go_at_call 104; refine (ccodedK _ _).mono ?_; rintro e w2 ⟨rfl, rfl⟩; rw [show codedB 2 = false from rfl]))
    go_ret
    exact ⟨rfl, HB.out⟩
  simp only [q11, Bool.not_true, Bool.not_false, Bool.true_and]
  rcases Bool.eq_false_or_eq_true (decide (off ≥ 0)) with q12 | q12
  rotate_left
  · simp only [q12, Bool.not_true, Bool.not_false, Bool.true_and, Bool.false_and]
    go_enter Try.func57, Try.ntmps57
    go_wp2_with (first | (go_at_call 102; refine (cclassedK _ _).mono ?_; rintro e w2 ⟨rfl, rfl⟩; rw [show classedB 2 = false from rfl]) | (go_at_call 104; refine (ccodedK _ _).mono ?_; rintro e w2 ⟨rfl, rfl⟩; rw [show codedB 2 = false from rfl]))
    go_ret
    exact ⟨rfl, HB.out⟩
  simp only [q12, Bool.not_true, Bool.not_false, Bool.true_and]
  rcases Bool.eq_false_or_eq_true (decide (off ≤ 65536 - D)) with q13 | q13
  all_goals
    simp only [q13]
    go_enter Try.func57, Try.ntmps57
    go_wp2_with (first | (go_at_call 102; refine (cclassedK _ _).mono ?_; rintro e w2 ⟨rfl, rfl⟩; rw [show classedB 2 = false from rfl]) | (go_at_call 104; refine (ccodedK _ _).mono ?_; rintro e w2 ⟨rfl, rfl⟩; rw [show codedB 2 = false from rfl]))
    go_ret
    exact ⟨rfl, HB.out⟩
end Go.Proofs.Ytfjadhkhmhnccaa
