/- The specification's Valid, kinds (7,). The specification's Valid is the program's. -/
import Derived.Test.YtfjadhkhmhnccaaStaA
import Derived.Test.YtfjadhkhmhnccaaRefGap
import Derived.Test.YtfjadhkhmhnccaaRefValA
import Derived.Test.YtfjadhkhmhnccaaRefValB
import Derived.Test.YtfjadhkhmhnccaaRefValC
set_option linter.unusedVariables false
set_option linter.unusedSimpArgs false
namespace Go.Proofs.Ytfjadhkhmhnccaa
open Go.RowKit Go.Proofs.Num
set_option maxRecDepth 100000 in
set_option maxHeartbeats 4000000 in
theorem cRefVal7 (w : World) (src num cls : Int) (name : ByteArray) (size off : Int) (da : Option Addr) (dl dc : Nat) (D G : Int) (hD : (dl : Int) = D) (S code : Int) (ga : Option Addr) (gc : Nat) (gl : Nat) (hG : (gl : Int) = G) (hs : name.size ≤ 1000000) (hdata : 0 ≤ D ∧ D < 1000000000) :
    Calls Try.prog 57 #[.agg #[.int .i64 7, .int .i64 src, .int .i64 num, .int .i64 cls, .string name, .int .i64 size, .int .i64 off, .slice da dl dc, .int .u32 S, .int .i64 code, .slice ga gl gc]] w fun e w' => e = .returned (.bool (!decide (src < 0) && !decide (src > 15) && !decide (num < 0) && !decide (num > 65535) && !(cls != 0) && !(size != 0) && name.toList.isEmpty && !(code != 0) && !(S != 0) && !decide (G > 0) && (off == 0) && (D == 0))) ∧ Below w.heap.size w w' := by
  have HB := hid ((Below.refl w.heap.size w).alloc (Nat.le_refl _) (.cells #[.int .i64 7, .int .i64 src, .int .i64 num, .int .i64 cls, .string name, .int .i64 size, .int .i64 off, .slice da dl dc, .int .u32 S, .int .i64 code, .slice ga gl gc] 45))
  clear hs
  rcases Bool.eq_false_or_eq_true (decide (src < 0)) with q0 | q0
  skip
  · simp only [q0, Bool.not_true, Bool.not_false, Bool.true_and, Bool.false_and]
    go_enter Try.func57, Try.ntmps57
    go_wp2_with (first | (go_at_call 102; refine (cclassedK _ _).mono ?_; rintro e w2 ⟨rfl, rfl⟩; rw [show classedB 7 = false from rfl]) | (go_at_call 104; refine (ccodedK _ _).mono ?_; rintro e w2 ⟨rfl, rfl⟩; rw [show codedB 7 = false from rfl]))
    go_ret
    exact ⟨rfl, HB.out⟩
  simp only [q0, Bool.not_true, Bool.not_false, Bool.true_and]
  rcases Bool.eq_false_or_eq_true (decide (src > 15)) with q1 | q1
  skip
  · simp only [q1, Bool.not_true, Bool.not_false, Bool.true_and, Bool.false_and]
    go_enter Try.func57, Try.ntmps57
    go_wp2_with (first | (go_at_call 102; refine (cclassedK _ _).mono ?_; rintro e w2 ⟨rfl, rfl⟩; rw [show classedB 7 = false from rfl]) | (go_at_call 104; refine (ccodedK _ _).mono ?_; rintro e w2 ⟨rfl, rfl⟩; rw [show codedB 7 = false from rfl]))
    go_ret
    exact ⟨rfl, HB.out⟩
  simp only [q1, Bool.not_true, Bool.not_false, Bool.true_and]
  rcases Bool.eq_false_or_eq_true (decide (num < 0)) with q2 | q2
  skip
  · simp only [q2, Bool.not_true, Bool.not_false, Bool.true_and, Bool.false_and]
    go_enter Try.func57, Try.ntmps57
    go_wp2_with (first | (go_at_call 102; refine (cclassedK _ _).mono ?_; rintro e w2 ⟨rfl, rfl⟩; rw [show classedB 7 = false from rfl]) | (go_at_call 104; refine (ccodedK _ _).mono ?_; rintro e w2 ⟨rfl, rfl⟩; rw [show codedB 7 = false from rfl]))
    go_ret
    exact ⟨rfl, HB.out⟩
  simp only [q2, Bool.not_true, Bool.not_false, Bool.true_and]
  rcases Bool.eq_false_or_eq_true (decide (num > 65535)) with q3 | q3
  skip
  · simp only [q3, Bool.not_true, Bool.not_false, Bool.true_and, Bool.false_and]
    go_enter Try.func57, Try.ntmps57
    go_wp2_with (first | (go_at_call 102; refine (cclassedK _ _).mono ?_; rintro e w2 ⟨rfl, rfl⟩; rw [show classedB 7 = false from rfl]) | (go_at_call 104; refine (ccodedK _ _).mono ?_; rintro e w2 ⟨rfl, rfl⟩; rw [show codedB 7 = false from rfl]))
    go_ret
    exact ⟨rfl, HB.out⟩
  simp only [q3, Bool.not_true, Bool.not_false, Bool.true_and]
  rcases Bool.eq_false_or_eq_true ((cls != 0)) with q4 | q4
  skip
  · simp only [q4, Bool.not_true, Bool.not_false, Bool.true_and, Bool.false_and]
    go_enter Try.func57, Try.ntmps57
    go_wp2_with (first | (go_at_call 102; refine (cclassedK _ _).mono ?_; rintro e w2 ⟨rfl, rfl⟩; rw [show classedB 7 = false from rfl]) | (go_at_call 104; refine (ccodedK _ _).mono ?_; rintro e w2 ⟨rfl, rfl⟩; rw [show codedB 7 = false from rfl]))
    go_ret
    exact ⟨rfl, HB.out⟩
  simp only [q4, Bool.not_true, Bool.not_false, Bool.true_and]
  rcases Bool.eq_false_or_eq_true ((size != 0)) with q5 | q5
  skip
  · simp only [q5, Bool.not_true, Bool.not_false, Bool.true_and, Bool.false_and]
    go_enter Try.func57, Try.ntmps57
    go_wp2_with (first | (go_at_call 102; refine (cclassedK _ _).mono ?_; rintro e w2 ⟨rfl, rfl⟩; rw [show classedB 7 = false from rfl]) | (go_at_call 104; refine (ccodedK _ _).mono ?_; rintro e w2 ⟨rfl, rfl⟩; rw [show codedB 7 = false from rfl]))
    go_ret
    exact ⟨rfl, HB.out⟩
  simp only [q5, Bool.not_true, Bool.not_false, Bool.true_and]
  rcases Bool.eq_false_or_eq_true (name.toList.isEmpty) with q6 | q6
  rotate_left
  · simp only [q6, Bool.not_true, Bool.not_false, Bool.true_and, Bool.false_and]
    go_enter Try.func57, Try.ntmps57
    go_wp2_with (first | (go_at_call 102; refine (cclassedK _ _).mono ?_; rintro e w2 ⟨rfl, rfl⟩; rw [show classedB 7 = false from rfl]) | (go_at_call 104; refine (ccodedK _ _).mono ?_; rintro e w2 ⟨rfl, rfl⟩; rw [show codedB 7 = false from rfl]))
    go_ret
    exact ⟨rfl, HB.out⟩
  simp only [q6, Bool.not_true, Bool.not_false, Bool.true_and]
  rcases Bool.eq_false_or_eq_true ((code != 0)) with q7 | q7
  skip
  · simp only [q7, Bool.not_true, Bool.not_false, Bool.true_and, Bool.false_and]
    go_enter Try.func57, Try.ntmps57
    go_wp2_with (first | (go_at_call 102; refine (cclassedK _ _).mono ?_; rintro e w2 ⟨rfl, rfl⟩; rw [show classedB 7 = false from rfl]) | (go_at_call 104; refine (ccodedK _ _).mono ?_; rintro e w2 ⟨rfl, rfl⟩; rw [show codedB 7 = false from rfl]))
    go_ret
    exact ⟨rfl, HB.out⟩
  simp only [q7, Bool.not_true, Bool.not_false, Bool.true_and]
  rcases Bool.eq_false_or_eq_true ((S != 0)) with q8 | q8
  skip
  · simp only [q8, Bool.not_true, Bool.not_false, Bool.true_and, Bool.false_and]
    go_enter Try.func57, Try.ntmps57
    go_wp2_with (first | (go_at_call 102; refine (cclassedK _ _).mono ?_; rintro e w2 ⟨rfl, rfl⟩; rw [show classedB 7 = false from rfl]) | (go_at_call 104; refine (ccodedK _ _).mono ?_; rintro e w2 ⟨rfl, rfl⟩; rw [show codedB 7 = false from rfl]))
    go_ret
    exact ⟨rfl, HB.out⟩
  simp only [q8, Bool.not_true, Bool.not_false, Bool.true_and]
  rcases Bool.eq_false_or_eq_true (decide (G > 0)) with q9 | q9
  skip
  · simp only [q9, Bool.not_true, Bool.not_false, Bool.true_and, Bool.false_and]
    go_enter Try.func57, Try.ntmps57
    go_wp2_with (first | (go_at_call 102; refine (cclassedK _ _).mono ?_; rintro e w2 ⟨rfl, rfl⟩; rw [show classedB 7 = false from rfl]) | (go_at_call 104; refine (ccodedK _ _).mono ?_; rintro e w2 ⟨rfl, rfl⟩; rw [show codedB 7 = false from rfl]))
    go_ret
    exact ⟨rfl, HB.out⟩
  simp only [q9, Bool.not_true, Bool.not_false, Bool.true_and]
  rcases Bool.eq_false_or_eq_true ((off == 0)) with q10 | q10
  rotate_left
  · simp only [q10, Bool.not_true, Bool.not_false, Bool.true_and, Bool.false_and]
    go_enter Try.func57, Try.ntmps57
    go_wp2_with (first | (go_at_call 102; refine (cclassedK _ _).mono ?_; rintro e w2 ⟨rfl, rfl⟩; rw [show classedB 7 = false from rfl]) | (go_at_call 104; refine (ccodedK _ _).mono ?_; rintro e w2 ⟨rfl, rfl⟩; rw [show codedB 7 = false from rfl]))
    go_ret
    exact ⟨rfl, HB.out⟩
  simp only [q10, Bool.not_true, Bool.not_false, Bool.true_and]
  rcases Bool.eq_false_or_eq_true ((D == 0)) with q11 | q11
  all_goals
    simp only [q11]
    go_enter Try.func57, Try.ntmps57
    go_wp2_with (first | (go_at_call 102; refine (cclassedK _ _).mono ?_; rintro e w2 ⟨rfl, rfl⟩; rw [show classedB 7 = false from rfl]) | (go_at_call 104; refine (ccodedK _ _).mono ?_; rintro e w2 ⟨rfl, rfl⟩; rw [show codedB 7 = false from rfl]))
    go_ret
    exact ⟨rfl, HB.out⟩
end Go.Proofs.Ytfjadhkhmhnccaa
namespace Go.Proofs.Ytfjadhkhmhnccaa
open Go.RowKit Go.Proofs.Num
theorem val_eq1 (p : Fil.Pdu) (hk : p.kind = 1) : (!decide (p.src < 0) && !decide (p.src > 15) && !decide (p.num < 0) && !decide (p.num > 65535) && !decide (p.cls < 1) && !decide (p.cls > 2) && !decide (p.size < 0) && !decide (p.size > 65536) && Fil.nameB p.name && !(p.code != 0) && !((p.sum : Int) != 0) && !decide ((p.gaps.length : Int) > 0) && (p.off == 0) && ((p.data.length : Int) == 0)) = p.validB := by
  obtain ⟨kind, src, num, cls, name, size, off, da, data, dc, sum, code, ga, gaps, gc⟩ := p
  simp only [] at hk
  subst hk
  unfold Fil.Pdu.validB
  have h1 : Fil.Pdu.kindB ⟨1, src, num, cls, name, size, off, da, data, dc, sum, code, ga, gaps, gc⟩ = (Fil.withinB cls 1 2 && Fil.withinB size 0 65536 && Fil.nameB name) := rfl
  have h2 : (Fil.Pdu.rest ⟨1, src, num, cls, name, size, off, da, data, dc, sum, code, ga, gaps, gc⟩).emptyB = ((off == 0) && decide (data.length = 0) && decide (sum = 0) && (code == 0) && decide (gaps.length = 0)) := by
    have e : (⟨#[]⟩ : ByteArray).toList.isEmpty = true := by kernel_rfl
    simp [Fil.Pdu.rest, Fil.Pdu.emptyB, e]
  rw [h1, h2]
  clear h1 h2
  simp only []
  generalize data.length = dl
  generalize gaps.length = gl
  generalize Fil.nameB name = nb
  generalize name.toList.isEmpty = ne
  generalize Fil.gapsB gaps = gb
  unfold Fil.withinB
  rw [Bool.eq_iff_iff]
  cases nb <;> cases ne <;> cases gb
  all_goals
    simp only [Bool.and_eq_true, Bool.not_eq_true', decide_eq_true_eq, decide_eq_false_iff_not, beq_iff_eq, bne_eq_false_iff_eq, Bool.false_eq_true, Bool.true_eq_false, and_false, false_and, and_true, true_and]
  all_goals omega
theorem val_eq2 (p : Fil.Pdu) (hk : p.kind = 2) : (!decide (p.src < 0) && !decide (p.src > 15) && !decide (p.num < 0) && !decide (p.num > 65535) && !(p.cls != 0) && !(p.size != 0) && p.name.toList.isEmpty && !(p.code != 0) && !((p.sum : Int) != 0) && !decide ((p.gaps.length : Int) > 0) && decide ((p.data.length : Int) ≥ 1) && decide ((p.data.length : Int) ≤ 512) && decide (p.off ≥ 0) && decide (p.off ≤ 65536 - (p.data.length : Int))) = p.validB := by
  obtain ⟨kind, src, num, cls, name, size, off, da, data, dc, sum, code, ga, gaps, gc⟩ := p
  simp only [] at hk
  subst hk
  unfold Fil.Pdu.validB
  have h1 : Fil.Pdu.kindB ⟨2, src, num, cls, name, size, off, da, data, dc, sum, code, ga, gaps, gc⟩ = (Fil.withinB data.length 1 512 && Fil.withinB off 0 (65536 - data.length)) := rfl
  have h2 : (Fil.Pdu.rest ⟨2, src, num, cls, name, size, off, da, data, dc, sum, code, ga, gaps, gc⟩).emptyB = ((cls == 0) && name.toList.isEmpty && (size == 0) && decide (sum = 0) && (code == 0) && decide (gaps.length = 0)) := by
    have e : (⟨#[]⟩ : ByteArray).toList.isEmpty = true := by kernel_rfl
    simp [Fil.Pdu.rest, Fil.Pdu.emptyB, e]
  rw [h1, h2]
  clear h1 h2
  simp only []
  generalize data.length = dl
  generalize gaps.length = gl
  generalize Fil.nameB name = nb
  generalize name.toList.isEmpty = ne
  generalize Fil.gapsB gaps = gb
  unfold Fil.withinB
  rw [Bool.eq_iff_iff]
  cases nb <;> cases ne <;> cases gb
  all_goals
    simp only [Bool.and_eq_true, Bool.not_eq_true', decide_eq_true_eq, decide_eq_false_iff_not, beq_iff_eq, bne_eq_false_iff_eq, Bool.false_eq_true, Bool.true_eq_false, and_false, false_and, and_true, true_and]
  all_goals omega
theorem val_eq3 (p : Fil.Pdu) (hk : p.kind = 3) : (!decide (p.src < 0) && !decide (p.src > 15) && !decide (p.num < 0) && !decide (p.num > 65535) && !decide (p.cls < 1) && !decide (p.cls > 2) && !decide (p.size < 0) && !decide (p.size > 65536) && p.name.toList.isEmpty && !decide (p.code < 0) && !decide (p.code > 17) && !decide ((p.gaps.length : Int) > 0) && (p.off == 0) && ((p.data.length : Int) == 0)) = p.validB := by
  obtain ⟨kind, src, num, cls, name, size, off, da, data, dc, sum, code, ga, gaps, gc⟩ := p
  simp only [] at hk
  subst hk
  unfold Fil.Pdu.validB
  have h1 : Fil.Pdu.kindB ⟨3, src, num, cls, name, size, off, da, data, dc, sum, code, ga, gaps, gc⟩ = (Fil.withinB cls 1 2 && Fil.withinB size 0 65536 && Fil.withinB code 0 17) := rfl
  have h2 : (Fil.Pdu.rest ⟨3, src, num, cls, name, size, off, da, data, dc, sum, code, ga, gaps, gc⟩).emptyB = (name.toList.isEmpty && (off == 0) && decide (data.length = 0) && decide (gaps.length = 0)) := by
    have e : (⟨#[]⟩ : ByteArray).toList.isEmpty = true := by kernel_rfl
    simp [Fil.Pdu.rest, Fil.Pdu.emptyB, e]
  rw [h1, h2]
  clear h1 h2
  simp only []
  generalize data.length = dl
  generalize gaps.length = gl
  generalize Fil.nameB name = nb
  generalize name.toList.isEmpty = ne
  generalize Fil.gapsB gaps = gb
  unfold Fil.withinB
  rw [Bool.eq_iff_iff]
  cases nb <;> cases ne <;> cases gb
  all_goals
    simp only [Bool.and_eq_true, Bool.not_eq_true', decide_eq_true_eq, decide_eq_false_iff_not, beq_iff_eq, bne_eq_false_iff_eq, Bool.false_eq_true, Bool.true_eq_false, and_false, false_and, and_true, true_and]
  all_goals omega
theorem val_eq4 (p : Fil.Pdu) (hk : p.kind = 4) : (!decide (p.src < 0) && !decide (p.src > 15) && !decide (p.num < 0) && !decide (p.num > 65535) && !(p.cls != 0) && !(p.size != 0) && p.name.toList.isEmpty && !(p.code != 0) && !((p.sum : Int) != 0) && Fil.gapsB p.gaps && (p.off == 0) && ((p.data.length : Int) == 0)) = p.validB := by
  obtain ⟨kind, src, num, cls, name, size, off, da, data, dc, sum, code, ga, gaps, gc⟩ := p
  simp only [] at hk
  subst hk
  unfold Fil.Pdu.validB
  have h1 : Fil.Pdu.kindB ⟨4, src, num, cls, name, size, off, da, data, dc, sum, code, ga, gaps, gc⟩ = (Fil.gapsB gaps) := rfl
  have h2 : (Fil.Pdu.rest ⟨4, src, num, cls, name, size, off, da, data, dc, sum, code, ga, gaps, gc⟩).emptyB = ((cls == 0) && name.toList.isEmpty && (size == 0) && (off == 0) && decide (data.length = 0) && decide (sum = 0) && (code == 0)) := by
    have e : (⟨#[]⟩ : ByteArray).toList.isEmpty = true := by kernel_rfl
    simp [Fil.Pdu.rest, Fil.Pdu.emptyB, e]
  rw [h1, h2]
  clear h1 h2
  simp only []
  generalize data.length = dl
  generalize gaps.length = gl
  generalize Fil.nameB name = nb
  generalize name.toList.isEmpty = ne
  generalize Fil.gapsB gaps = gb
  unfold Fil.withinB
  rw [Bool.eq_iff_iff]
  cases nb <;> cases ne <;> cases gb
  all_goals
    simp only [Bool.and_eq_true, Bool.not_eq_true', decide_eq_true_eq, decide_eq_false_iff_not, beq_iff_eq, bne_eq_false_iff_eq, Bool.false_eq_true, Bool.true_eq_false, and_false, false_and, and_true, true_and]
  all_goals omega
theorem val_eq5 (p : Fil.Pdu) (hk : p.kind = 5) : (!decide (p.src < 0) && !decide (p.src > 15) && !decide (p.num < 0) && !decide (p.num > 65535) && !(p.cls != 0) && !(p.size != 0) && p.name.toList.isEmpty && !decide (p.code < 0) && !decide (p.code > 17) && !((p.sum : Int) != 0) && !decide ((p.gaps.length : Int) > 0) && (p.off == 0) && ((p.data.length : Int) == 0)) = p.validB := by
  obtain ⟨kind, src, num, cls, name, size, off, da, data, dc, sum, code, ga, gaps, gc⟩ := p
  simp only [] at hk
  subst hk
  unfold Fil.Pdu.validB
  have h1 : Fil.Pdu.kindB ⟨5, src, num, cls, name, size, off, da, data, dc, sum, code, ga, gaps, gc⟩ = (Fil.withinB code 0 17) := rfl
  have h2 : (Fil.Pdu.rest ⟨5, src, num, cls, name, size, off, da, data, dc, sum, code, ga, gaps, gc⟩).emptyB = ((cls == 0) && name.toList.isEmpty && (size == 0) && (off == 0) && decide (data.length = 0) && decide (sum = 0) && decide (gaps.length = 0)) := by
    have e : (⟨#[]⟩ : ByteArray).toList.isEmpty = true := by kernel_rfl
    simp [Fil.Pdu.rest, Fil.Pdu.emptyB, e]
  rw [h1, h2]
  clear h1 h2
  simp only []
  generalize data.length = dl
  generalize gaps.length = gl
  generalize Fil.nameB name = nb
  generalize name.toList.isEmpty = ne
  generalize Fil.gapsB gaps = gb
  unfold Fil.withinB
  rw [Bool.eq_iff_iff]
  cases nb <;> cases ne <;> cases gb
  all_goals
    simp only [Bool.and_eq_true, Bool.not_eq_true', decide_eq_true_eq, decide_eq_false_iff_not, beq_iff_eq, bne_eq_false_iff_eq, Bool.false_eq_true, Bool.true_eq_false, and_false, false_and, and_true, true_and]
  all_goals omega
theorem val_eq6 (p : Fil.Pdu) (hk : p.kind = 6) : (!decide (p.src < 0) && !decide (p.src > 15) && !decide (p.num < 0) && !decide (p.num > 65535) && !(p.cls != 0) && !(p.size != 0) && p.name.toList.isEmpty && !(p.code != 0) && !((p.sum : Int) != 0) && !decide ((p.gaps.length : Int) > 0) && (p.off == 0) && ((p.data.length : Int) == 0)) = p.validB := by
  obtain ⟨kind, src, num, cls, name, size, off, da, data, dc, sum, code, ga, gaps, gc⟩ := p
  simp only [] at hk
  subst hk
  unfold Fil.Pdu.validB
  have h1 : Fil.Pdu.kindB ⟨6, src, num, cls, name, size, off, da, data, dc, sum, code, ga, gaps, gc⟩ = (true) := rfl
  have h2 : (Fil.Pdu.rest ⟨6, src, num, cls, name, size, off, da, data, dc, sum, code, ga, gaps, gc⟩).emptyB = ((cls == 0) && name.toList.isEmpty && (size == 0) && (off == 0) && decide (data.length = 0) && decide (sum = 0) && (code == 0) && decide (gaps.length = 0)) := by
    have e : (⟨#[]⟩ : ByteArray).toList.isEmpty = true := by kernel_rfl
    simp [Fil.Pdu.rest, Fil.Pdu.emptyB, e]
  rw [h1, h2]
  clear h1 h2
  simp only []
  generalize data.length = dl
  generalize gaps.length = gl
  generalize Fil.nameB name = nb
  generalize name.toList.isEmpty = ne
  generalize Fil.gapsB gaps = gb
  unfold Fil.withinB
  rw [Bool.eq_iff_iff]
  cases nb <;> cases ne <;> cases gb
  all_goals
    simp only [Bool.and_eq_true, Bool.not_eq_true', decide_eq_true_eq, decide_eq_false_iff_not, beq_iff_eq, bne_eq_false_iff_eq, Bool.false_eq_true, Bool.true_eq_false, and_false, false_and, and_true, true_and]
  all_goals omega
theorem val_eq7 (p : Fil.Pdu) (hk : p.kind = 7) : (!decide (p.src < 0) && !decide (p.src > 15) && !decide (p.num < 0) && !decide (p.num > 65535) && !(p.cls != 0) && !(p.size != 0) && p.name.toList.isEmpty && !(p.code != 0) && !((p.sum : Int) != 0) && !decide ((p.gaps.length : Int) > 0) && (p.off == 0) && ((p.data.length : Int) == 0)) = p.validB := by
  obtain ⟨kind, src, num, cls, name, size, off, da, data, dc, sum, code, ga, gaps, gc⟩ := p
  simp only [] at hk
  subst hk
  unfold Fil.Pdu.validB
  have h1 : Fil.Pdu.kindB ⟨7, src, num, cls, name, size, off, da, data, dc, sum, code, ga, gaps, gc⟩ = (true) := rfl
  have h2 : (Fil.Pdu.rest ⟨7, src, num, cls, name, size, off, da, data, dc, sum, code, ga, gaps, gc⟩).emptyB = ((cls == 0) && name.toList.isEmpty && (size == 0) && (off == 0) && decide (data.length = 0) && decide (sum = 0) && (code == 0) && decide (gaps.length = 0)) := by
    have e : (⟨#[]⟩ : ByteArray).toList.isEmpty = true := by kernel_rfl
    simp [Fil.Pdu.rest, Fil.Pdu.emptyB, e]
  rw [h1, h2]
  clear h1 h2
  simp only []
  generalize data.length = dl
  generalize gaps.length = gl
  generalize Fil.nameB name = nb
  generalize name.toList.isEmpty = ne
  generalize Fil.gapsB gaps = gb
  unfold Fil.withinB
  rw [Bool.eq_iff_iff]
  cases nb <;> cases ne <;> cases gb
  all_goals
    simp only [Bool.and_eq_true, Bool.not_eq_true', decide_eq_true_eq, decide_eq_false_iff_not, beq_iff_eq, bne_eq_false_iff_eq, Bool.false_eq_true, Bool.true_eq_false, and_false, false_and, and_true, true_and]
  all_goals omega
set_option maxRecDepth 100000 in
theorem cRefValid (w : World) (p : Fil.Pdu) (hname : p.name.size ≤ 1000000) (hdata : p.data.length < 1000000000) (hgl : p.gaps.length < 1000000) (hg : RdR w (.slice p.ga p.gaps.length p.gc) p.gaps) :
    Calls Try.prog 57 #[.agg p.cells] w fun e w' => e = .returned (.bool p.validB) ∧ Below w.heap.size w w' := by
  have hk : p.kind = 1 ∨ p.kind = 2 ∨ p.kind = 3 ∨ p.kind = 4 ∨ p.kind = 5 ∨ p.kind = 6 ∨ p.kind = 7 ∨ p.kind < 1 ∨ 7 < p.kind := by omega
  rcases hk with hk | hk | hk | hk | hk | hk | hk | hk | hk
  · have h := cRefVal1 w p.src p.num p.cls p.name p.size p.off p.da p.data.length p.dc (p.data.length : Int) (p.gaps.length : Int) rfl (p.sum : Int) p.code p.ga p.gc p.gaps.length rfl hname (by omega)
    rw [val_eq1 p hk] at h
    rw [show p.cells = #[.int .i64 1, .int .i64 p.src, .int .i64 p.num, .int .i64 p.cls, .string p.name, .int .i64 p.size, .int .i64 p.off, .slice p.da p.data.length p.dc, .int .u32 (p.sum : Int), .int .i64 p.code, .slice p.ga p.gaps.length p.gc] by unfold Fil.Pdu.cells; rw [hk]]
    exact h
  · have h := cRefVal2 w p.src p.num p.cls p.name p.size p.off p.da p.data.length p.dc (p.data.length : Int) (p.gaps.length : Int) rfl (p.sum : Int) p.code p.ga p.gc p.gaps.length rfl hname (by omega)
    rw [val_eq2 p hk] at h
    rw [show p.cells = #[.int .i64 2, .int .i64 p.src, .int .i64 p.num, .int .i64 p.cls, .string p.name, .int .i64 p.size, .int .i64 p.off, .slice p.da p.data.length p.dc, .int .u32 (p.sum : Int), .int .i64 p.code, .slice p.ga p.gaps.length p.gc] by unfold Fil.Pdu.cells; rw [hk]]
    exact h
  · have h := cRefVal3 w p.src p.num p.cls p.name p.size p.off p.da p.data.length p.dc (p.data.length : Int) (p.gaps.length : Int) rfl (p.sum : Int) p.code p.ga p.gc p.gaps.length rfl hname (by omega)
    rw [val_eq3 p hk] at h
    rw [show p.cells = #[.int .i64 3, .int .i64 p.src, .int .i64 p.num, .int .i64 p.cls, .string p.name, .int .i64 p.size, .int .i64 p.off, .slice p.da p.data.length p.dc, .int .u32 (p.sum : Int), .int .i64 p.code, .slice p.ga p.gaps.length p.gc] by unfold Fil.Pdu.cells; rw [hk]]
    exact h
  · have h := cRefVal4 w p.src p.num p.cls p.name p.size p.off p.da p.data.length p.dc (p.data.length : Int) 0 rfl (p.sum : Int) p.code p.ga p.gc p.gaps hgl hg hname (by omega)
    rw [val_eq4 p hk] at h
    rw [show p.cells = #[.int .i64 4, .int .i64 p.src, .int .i64 p.num, .int .i64 p.cls, .string p.name, .int .i64 p.size, .int .i64 p.off, .slice p.da p.data.length p.dc, .int .u32 (p.sum : Int), .int .i64 p.code, .slice p.ga p.gaps.length p.gc] by unfold Fil.Pdu.cells; rw [hk]]
    exact h
  · have h := cRefVal5 w p.src p.num p.cls p.name p.size p.off p.da p.data.length p.dc (p.data.length : Int) (p.gaps.length : Int) rfl (p.sum : Int) p.code p.ga p.gc p.gaps.length rfl hname (by omega)
    rw [val_eq5 p hk] at h
    rw [show p.cells = #[.int .i64 5, .int .i64 p.src, .int .i64 p.num, .int .i64 p.cls, .string p.name, .int .i64 p.size, .int .i64 p.off, .slice p.da p.data.length p.dc, .int .u32 (p.sum : Int), .int .i64 p.code, .slice p.ga p.gaps.length p.gc] by unfold Fil.Pdu.cells; rw [hk]]
    exact h
  · have h := cRefVal6 w p.src p.num p.cls p.name p.size p.off p.da p.data.length p.dc (p.data.length : Int) (p.gaps.length : Int) rfl (p.sum : Int) p.code p.ga p.gc p.gaps.length rfl hname (by omega)
    rw [val_eq6 p hk] at h
    rw [show p.cells = #[.int .i64 6, .int .i64 p.src, .int .i64 p.num, .int .i64 p.cls, .string p.name, .int .i64 p.size, .int .i64 p.off, .slice p.da p.data.length p.dc, .int .u32 (p.sum : Int), .int .i64 p.code, .slice p.ga p.gaps.length p.gc] by unfold Fil.Pdu.cells; rw [hk]]
    exact h
  · have h := cRefVal7 w p.src p.num p.cls p.name p.size p.off p.da p.data.length p.dc (p.data.length : Int) (p.gaps.length : Int) rfl (p.sum : Int) p.code p.ga p.gc p.gaps.length rfl hname (by omega)
    rw [val_eq7 p hk] at h
    rw [show p.cells = #[.int .i64 7, .int .i64 p.src, .int .i64 p.num, .int .i64 p.cls, .string p.name, .int .i64 p.size, .int .i64 p.off, .slice p.da p.data.length p.dc, .int .u32 (p.sum : Int), .int .i64 p.code, .slice p.ga p.gaps.length p.gc] by unfold Fil.Pdu.cells; rw [hk]]
    exact h
  · have hv : p.validB = false := by
      have h0 : Fil.withinB p.kind 1 7 = false := by unfold Fil.withinB; simp only [Bool.and_eq_false_iff, decide_eq_false_iff_not]; omega
      unfold Fil.Pdu.validB
      rw [h0]; rfl
    rw [hv]
    have HB := hid ((Below.refl w.heap.size w).alloc (Nat.le_refl _) (.cells p.cells 45))
    clear hv hg
    obtain ⟨kind, src, num, cls, name, size, off, da, data, dc, sum, code, ga, gaps, gc⟩ := p
    simp only [] at hk
    unfold Fil.Pdu.cells at HB ⊢
    simp only [] at HB ⊢
    generalize data.length = dl at *
    generalize gaps.length = gl at *
    have d0 : decide (kind < 1) = true := decide_eq_true (by omega)
    have d1 : True := trivial
    clear hk
    go_enter Try.func57, Try.ntmps57
    go_wp2_with fail
    go_ret
    exact ⟨rfl, HB.out⟩
  · have hv : p.validB = false := by
      have h0 : Fil.withinB p.kind 1 7 = false := by unfold Fil.withinB; simp only [Bool.and_eq_false_iff, decide_eq_false_iff_not]; omega
      unfold Fil.Pdu.validB
      rw [h0]; rfl
    rw [hv]
    have HB := hid ((Below.refl w.heap.size w).alloc (Nat.le_refl _) (.cells p.cells 45))
    clear hv hg
    obtain ⟨kind, src, num, cls, name, size, off, da, data, dc, sum, code, ga, gaps, gc⟩ := p
    simp only [] at hk
    unfold Fil.Pdu.cells at HB ⊢
    simp only [] at HB ⊢
    generalize data.length = dl at *
    generalize gaps.length = gl at *
    have d0 : decide (kind > 7) = true := decide_eq_true (by omega)
    have d1 : decide (kind < 1) = false := decide_eq_false (by omega)
    clear hk
    go_enter Try.func57, Try.ntmps57
    go_wp2_with fail
    go_ret
    exact ⟨rfl, HB.out⟩
end Go.Proofs.Ytfjadhkhmhnccaa
