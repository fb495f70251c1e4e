/- The specification's Valid, kinds (3, 4). -/
import Derived.Test.YtfjadhkhmhnccaaStaA
import Derived.Test.YtfjadhkhmhnccaaRefGap
set_option linter.unusedVariables false
set_option linter.unusedSimpArgs false
namespace Go.Proofs.Ytfjadhkhmhnccaa
open Go.RowKit Go.Proofs.Num
theorem cell_box {w w2 : World} {cs : Array Value} {t : TypeId} (h : Below (w.heap.size + 1) (w.alloc (.cells cs t)) w2) (j : Nat) : w2.cell? ⟨w.heap.size, j, none⟩ = cs[j]? := by
  have hn : (w.alloc (.cells cs t)).heap[w.heap.size]? = some (.cells cs t (0, 0)) := heap_new w _ rfl
  rw [h.cell (p := ⟨w.heap.size, j, none⟩) (by simp)]
  simp only [World.cell?, hn]
  rfl
set_option maxRecDepth 100000 in
set_option maxHeartbeats 4000000 in
theorem cRefVal3 (w : World) (src num cls : Int) (name : ByteArray) (size off : Int) (da : Option Addr) (dl dc : Nat) (D G : Int) (hD : (dl : Int) = D) (S code : Int) (ga : Option Addr) (gc : Nat) (gl : Nat) (hG : (gl : Int) = G) (hs : name.size ≤ 1000000) (hdata : 0 ≤ D ∧ D < 1000000000) :
    Calls Try.prog 57 #[.agg #[.int .i64 3, .int .i64 src, .int .i64 num, .int .i64 cls, .string name, .int .i64 size, .int .i64 off, .slice da dl dc, .int .u32 S, .int .i64 code, .slice ga gl gc]] w fun e w' => e = .returned (.bool (!decide (src < 0) && !decide (src > 15) && !decide (num < 0) && !decide (num > 65535) && !decide (cls < 1) && !decide (cls > 2) && !decide (size < 0) && !decide (size > 65536) && name.toList.isEmpty && !decide (code < 0) && !decide (code > 17) && !decide (G > 0) && (off == 0) && (D == 0))) ∧ Below w.heap.size w w' := by
  have HB := hid ((Below.refl w.heap.size w).alloc (Nat.le_refl _) (.cells #[.int .i64 3, .int .i64 src, .int .i64 num, .int .i64 cls, .string name, .int .i64 size, .int .i64 off, .slice da dl dc, .int .u32 S, .int .i64 code, .slice ga gl gc] 45))
  clear hs
  rcases Bool.eq_false_or_eq_true (decide (src < 0)) with q0 | q0
  skip
  · simp only [q0, Bool.not_true, Bool.not_false, Bool.true_and, Bool.false_and]
    go_enter Try.func57, Try.ntmps57
    go_wp2_with (first | (go_at_call 102; refine (cclassedK _ _).mono ?_; rintro e w2 ⟨rfl, rfl⟩; rw [show classedB 3 = true from rfl]) | (go_at_call 104; refine (ccodedK _ _).mono ?_; rintro e w2 ⟨rfl, rfl⟩; rw [show codedB 3 = true from rfl]))
    go_ret
    exact ⟨rfl, HB.out⟩
  simp only [q0, Bool.not_true, Bool.not_false, Bool.true_and]
  rcases Bool.eq_false_or_eq_true (decide (src > 15)) with q1 | q1
  skip
  · simp only [q1, Bool.not_true, Bool.not_false, Bool.true_and, Bool.false_and]
    go_enter Try.func57, Try.ntmps57
    go_wp2_with (first | (go_at_call 102; refine (cclassedK _ _).mono ?_; rintro e w2 ⟨rfl, rfl⟩; rw [show classedB 3 = true from rfl]) | (go_at_call 104; refine (ccodedK _ _).mono ?_; rintro e w2 ⟨rfl, rfl⟩; rw [show codedB 3 = true from rfl]))
    go_ret
    exact ⟨rfl, HB.out⟩
  simp only [q1, Bool.not_true, Bool.not_false, Bool.true_and]
  rcases Bool.eq_false_or_eq_true (decide (num < 0)) with q2 | q2
  skip
  · simp only [q2, Bool.not_true, Bool.not_false, Bool.true_and, Bool.false_and]
    go_enter Try.func57, Try.ntmps57
    go_wp2_with (first | (go_at_call 102; refine (cclassedK _ _).mono ?_; rintro e w2 ⟨rfl, rfl⟩; rw [show classedB 3 = true from rfl]) | (go_at_call 104; refine (ccodedK _ _).mono ?_; rintro e w2 ⟨rfl, rfl⟩; rw [show codedB 3 = true from rfl]))
    go_ret
    exact ⟨rfl, HB.out⟩
  simp only [q2, Bool.not_true, Bool.not_false, Bool.true_and]
  rcases Bool.eq_false_or_eq_true (decide (num > 65535)) with q3 | q3
  skip
  · simp only [q3, Bool.not_true, Bool.not_false, Bool.true_and, Bool.false_and]
    go_enter Try.func57, Try.ntmps57
    go_wp2_with (first | (go_at_call 102; refine (cclassedK _ _).mono ?_; rintro e w2 ⟨rfl, rfl⟩; rw [show classedB 3 = true from rfl]) | (go_at_call 104; refine (ccodedK _ _).mono ?_; rintro e w2 ⟨rfl, rfl⟩; rw [show codedB 3 = true from rfl]))
    go_ret
    exact ⟨rfl, HB.out⟩
  simp only [q3, Bool.not_true, Bool.not_false, Bool.true_and]
  rcases Bool.eq_false_or_eq_true (decide (cls < 1)) with q4 | q4
  skip
  · simp only [q4, Bool.not_true, Bool.not_false, Bool.true_and, Bool.false_and]
    go_enter Try.func57, Try.ntmps57
    go_wp2_with (first | (go_at_call 102; refine (cclassedK _ _).mono ?_; rintro e w2 ⟨rfl, rfl⟩; rw [show classedB 3 = true from rfl]) | (go_at_call 104; refine (ccodedK _ _).mono ?_; rintro e w2 ⟨rfl, rfl⟩; rw [show codedB 3 = true from rfl]))
    go_ret
    exact ⟨rfl, HB.out⟩
  simp only [q4, Bool.not_true, Bool.not_false, Bool.true_and]
  rcases Bool.eq_false_or_eq_true (decide (cls > 2)) with q5 | q5
  skip
  · simp only [q5, Bool.not_true, Bool.not_false, Bool.true_and, Bool.false_and]
    go_enter Try.func57, Try.ntmps57
    go_wp2_with (first | (go_at_call 102; refine (cclassedK _ _).mono ?_; rintro e w2 ⟨rfl, rfl⟩; rw [show classedB 3 = true from rfl]) | (go_at_call 104; refine (ccodedK _ _).mono ?_; rintro e w2 ⟨rfl, rfl⟩; rw [show codedB 3 = true from rfl]))
    go_ret
    exact ⟨rfl, HB.out⟩
  simp only [q5, Bool.not_true, Bool.not_false, Bool.true_and]
  rcases Bool.eq_false_or_eq_true (decide (size < 0)) with q6 | q6
  skip
  · simp only [q6, Bool.not_true, Bool.not_false, Bool.true_and, Bool.false_and]
    go_enter Try.func57, Try.ntmps57
    go_wp2_with (first | (go_at_call 102; refine (cclassedK _ _).mono ?_; rintro e w2 ⟨rfl, rfl⟩; rw [show classedB 3 = true from rfl]) | (go_at_call 104; refine (ccodedK _ _).mono ?_; rintro e w2 ⟨rfl, rfl⟩; rw [show codedB 3 = true from rfl]))
    go_ret
    exact ⟨rfl, HB.out⟩
  simp only [q6, Bool.not_true, Bool.not_false, Bool.true_and]
  rcases Bool.eq_false_or_eq_true (decide (size > 65536)) with q7 | q7
  skip
  · simp only [q7, Bool.not_true, Bool.not_false, Bool.true_and, Bool.false_and]
    go_enter Try.func57, Try.ntmps57
    go_wp2_with (first | (go_at_call 102; refine (cclassedK _ _).mono ?_; rintro e w2 ⟨rfl, rfl⟩; rw [show classedB 3 = true from rfl]) | (go_at_call 104; refine (ccodedK _ _).mono ?_; rintro e w2 ⟨rfl, rfl⟩; rw [show codedB 3 = true from rfl]))
    go_ret
    exact ⟨rfl, HB.out⟩
  simp only [q7, Bool.not_true, Bool.not_false, Bool.true_and]
  rcases Bool.eq_false_or_eq_true (name.toList.isEmpty) with q8 | q8
  rotate_left
  · simp only [q8, Bool.not_true, Bool.not_false, Bool.true_and, Bool.false_and]
    go_enter Try.func57, Try.ntmps57
    go_wp2_with (first | (go_at_call 102; refine (cclassedK _ _).mono ?_; rintro e w2 ⟨rfl, rfl⟩; rw [show classedB 3 = true from rfl]) | (go_at_call 104; refine (ccodedK _ _).mono ?_; rintro e w2 ⟨rfl, rfl⟩; rw [show codedB 3 = true from rfl]))
    go_ret
    exact ⟨rfl, HB.out⟩
  simp only [q8, Bool.not_true, Bool.not_false, Bool.true_and]
  rcases Bool.eq_false_or_eq_true (decide (code < 0)) with q9 | q9
  skip
  · simp only [q9, Bool.not_true, Bool.not_false, Bool.true_and, Bool.false_and]
    go_enter Try.func57, Try.ntmps57
    go_wp2_with (first | (go_at_call 102; refine (cclassedK _ _).mono ?_; rintro e w2 ⟨rfl, rfl⟩; rw [show classedB 3 = true from rfl]) | (go_at_call 104; refine (ccodedK _ _).mono ?_; rintro e w2 ⟨rfl, rfl⟩; rw [show codedB 3 = true from rfl]))
    go_ret
    exact ⟨rfl, HB.out⟩
  simp only [q9, Bool.not_true, Bool.not_false, Bool.true_and]
  rcases Bool.eq_false_or_eq_true (decide (code > 17)) with q10 | q10
  skip
  · simp only [q10, Bool.not_true, Bool.not_false, Bool.true_and, Bool.false_and]
    go_enter Try.func57, Try.ntmps57
    go_wp2_with (first | (go_at_call 102; refine (cclassedK _ _).mono ?_; rintro e w2 ⟨rfl, rfl⟩; rw [show classedB 3 = true from rfl]) | (go_at_call 104; refine (ccodedK _ _).mono ?_; rintro e w2 ⟨rfl, rfl⟩; rw [show codedB 3 = true from rfl]))
    go_ret
    exact ⟨rfl, HB.out⟩
  simp only [q10, Bool.not_true, Bool.not_false, Bool.true_and]
  rcases Bool.eq_false_or_eq_true (decide (G > 0)) with q11 | q11
  skip
  · simp only [q11, Bool.not_true, Bool.not_false, Bool.true_and, Bool.false_and]
    go_enter Try.func57, Try.ntmps57
    go_wp2_with (first | (go_at_call 102; refine (cclassedK _ _).mono ?_; rintro e w2 ⟨rfl, rfl⟩; rw [show classedB 3 = true from rfl]) | (go_at_call 104; refine (ccodedK _ _).mono ?_; rintro e w2 ⟨rfl, rfl⟩; rw [show codedB 3 = true from rfl]))
    go_ret
    exact ⟨rfl, HB.out⟩
  simp only [q11, Bool.not_true, Bool.not_false, Bool.true_and]
  rcases Bool.eq_false_or_eq_true ((off == 0)) with q12 | q12
  rotate_left
  · simp only [q12, Bool.not_true, Bool.not_false, Bool.true_and, Bool.false_and]
    go_enter Try.func57, Try.ntmps57
    go_wp2_with (first | (go_at_call 102; refine (cclassedK _ _).mono ?_; rintro e w2 ⟨rfl, rfl⟩; rw [show classedB 3 = true from rfl]) | (go_at_call 104; refine (ccodedK _ _).mono ?_; rintro e w2 ⟨rfl, rfl⟩; rw [show codedB 3 = true from rfl]))
    go_ret
    exact ⟨rfl, HB.out⟩
  simp only [q12, Bool.not_true, Bool.not_false, Bool.true_and]
  rcases Bool.eq_false_or_eq_true ((D == 0)) with q13 | q13
  all_goals
    simp only [q13]
    go_enter Try.func57, Try.ntmps57
    go_wp2_with (first | (go_at_call 102; refine (cclassedK _ _).mono ?_; rintro e w2 ⟨rfl, rfl⟩; rw [show classedB 3 = true from rfl]) | (go_at_call 104; refine (ccodedK _ _).mono ?_; rintro e w2 ⟨rfl, rfl⟩; rw [show codedB 3 = true from rfl]))
    go_ret
    exact ⟨rfl, HB.out⟩
set_option maxRecDepth 100000 in
set_option maxHeartbeats 4000000 in
theorem cRefVal4 (w : World) (src num cls : Int) (name : ByteArray) (size off : Int) (da : Option Addr) (dl dc : Nat) (D G : Int) (hD : (dl : Int) = D) (S code : Int) (ga : Option Addr) (gc : Nat) (gaps : List Rng.R) (hgl : gaps.length < 1000000) (hg : RdR w (.slice ga gaps.length gc) gaps) (hs : name.size ≤ 1000000) (hdata : 0 ≤ D ∧ D < 1000000000) :
    Calls Try.prog 57 #[.agg #[.int .i64 4, .int .i64 src, .int .i64 num, .int .i64 cls, .string name, .int .i64 size, .int .i64 off, .slice da dl dc, .int .u32 S, .int .i64 code, .slice ga gaps.length gc]] w fun e w' => e = .returned (.bool (!decide (src < 0) && !decide (src > 15) && !decide (num < 0) && !decide (num > 65535) && !(cls != 0) && !(size != 0) && name.toList.isEmpty && !(code != 0) && !(S != 0) && Fil.gapsB gaps && (off == 0) && (D == 0))) ∧ Below w.heap.size w w' := by
  have HB := hid ((Below.refl w.heap.size w).alloc (Nat.le_refl _) (.cells #[.int .i64 4, .int .i64 src, .int .i64 num, .int .i64 cls, .string name, .int .i64 size, .int .i64 off, .slice da dl dc, .int .u32 S, .int .i64 code, .slice ga gaps.length gc] 45))
  have HGP := hid (cRefGaps (w.alloc (.cells #[.int .i64 4, .int .i64 src, .int .i64 num, .int .i64 cls, .string name, .int .i64 size, .int .i64 off, .slice da dl dc, .int .u32 S, .int .i64 code, .slice ga gaps.length gc] 45)) (.slice ga gaps.length gc) gaps (hg.below HB.out) hgl)
  clear hg hs
  rcases Bool.eq_false_or_eq_true (decide (src < 0)) with q0 | q0
  skip
  · simp only [q0, Bool.not_true, Bool.not_false, Bool.true_and, Bool.false_and]
    go_enter Try.func57, Try.ntmps57
    go_wp2_with (first | (go_at_call 102; refine (cclassedK _ _).mono ?_; rintro e w2 ⟨rfl, rfl⟩; rw [show classedB 4 = false from rfl]) | (go_at_call 104; refine (ccodedK _ _).mono ?_; rintro e w2 ⟨rfl, rfl⟩; rw [show codedB 4 = false from rfl]) | (go_at_call 105; refine HGP.out.mono ?_; rintro e w2 ⟨rfl, hb2⟩; rw [qG]; have HB2 := hid (HB.out.trans (hb2.mono HB.out.size)); simp only [show ∀ o, (w.alloc o).heap.size = w.heap.size + 1 from fun o => by simp] at hb2; have c0 := cell_box hb2 0; have c5 := cell_box hb2 5; have c6 := cell_box hb2 6; have c7 := cell_box hb2 7; simp only [List.getElem?_toArray, List.getElem?_cons_zero, List.getElem?_cons_succ] at c0 c5 c6 c7; clear hb2))
    go_ret
    exact ⟨rfl, HB.out⟩
  simp only [q0, Bool.not_true, Bool.not_false, Bool.true_and]
  rcases Bool.eq_false_or_eq_true (decide (src > 15)) with q1 | q1
  skip
  · simp only [q1, Bool.not_true, Bool.not_false, Bool.true_and, Bool.false_and]
    go_enter Try.func57, Try.ntmps57
    go_wp2_with (first | (go_at_call 102; refine (cclassedK _ _).mono ?_; rintro e w2 ⟨rfl, rfl⟩; rw [show classedB 4 = false from rfl]) | (go_at_call 104; refine (ccodedK _ _).mono ?_; rintro e w2 ⟨rfl, rfl⟩; rw [show codedB 4 = false from rfl]) | (go_at_call 105; refine HGP.out.mono ?_; rintro e w2 ⟨rfl, hb2⟩; rw [qG]; have HB2 := hid (HB.out.trans (hb2.mono HB.out.size)); simp only [show ∀ o, (w.alloc o).heap.size = w.heap.size + 1 from fun o => by simp] at hb2; have c0 := cell_box hb2 0; have c5 := cell_box hb2 5; have c6 := cell_box hb2 6; have c7 := cell_box hb2 7; simp only [List.getElem?_toArray, List.getElem?_cons_zero, List.getElem?_cons_succ] at c0 c5 c6 c7; clear hb2))
    go_ret
    exact ⟨rfl, HB.out⟩
  simp only [q1, Bool.not_true, Bool.not_false, Bool.true_and]
  rcases Bool.eq_false_or_eq_true (decide (num < 0)) with q2 | q2
  skip
  · simp only [q2, Bool.not_true, Bool.not_false, Bool.true_and, Bool.false_and]
    go_enter Try.func57, Try.ntmps57
    go_wp2_with (first | (go_at_call 102; refine (cclassedK _ _).mono ?_; rintro e w2 ⟨rfl, rfl⟩; rw [show classedB 4 = false from rfl]) | (go_at_call 104; refine (ccodedK _ _).mono ?_; rintro e w2 ⟨rfl, rfl⟩; rw [show codedB 4 = false from rfl]) | (go_at_call 105; refine HGP.out.mono ?_; rintro e w2 ⟨rfl, hb2⟩; rw [qG]; have HB2 := hid (HB.out.trans (hb2.mono HB.out.size)); simp only [show ∀ o, (w.alloc o).heap.size = w.heap.size + 1 from fun o => by simp] at hb2; have c0 := cell_box hb2 0; have c5 := cell_box hb2 5; have c6 := cell_box hb2 6; have c7 := cell_box hb2 7; simp only [List.getElem?_toArray, List.getElem?_cons_zero, List.getElem?_cons_succ] at c0 c5 c6 c7; clear hb2))
    go_ret
    exact ⟨rfl, HB.out⟩
  simp only [q2, Bool.not_true, Bool.not_false, Bool.true_and]
  rcases Bool.eq_false_or_eq_true (decide (num > 65535)) with q3 | q3
  skip
  · simp only [q3, Bool.not_true, Bool.not_false, Bool.true_and, Bool.false_and]
    go_enter Try.func57, Try.ntmps57
    go_wp2_with (first | (go_at_call 102; refine (cclassedK _ _).mono ?_; rintro e w2 ⟨rfl, rfl⟩; rw [show classedB 4 = false from rfl]) | (go_at_call 104; refine (ccodedK _ _).mono ?_; rintro e w2 ⟨rfl, rfl⟩; rw [show codedB 4 = false from rfl]) | (go_at_call 105; refine HGP.out.mono ?_; rintro e w2 ⟨rfl, hb2⟩; rw [qG]; have HB2 := hid (HB.out.trans (hb2.mono HB.out.size)); simp only [show ∀ o, (w.alloc o).heap.size = w.heap.size + 1 from fun o => by simp] at hb2; have c0 := cell_box hb2 0; have c5 := cell_box hb2 5; have c6 := cell_box hb2 6; have c7 := cell_box hb2 7; simp only [List.getElem?_toArray, List.getElem?_cons_zero, List.getElem?_cons_succ] at c0 c5 c6 c7; clear hb2))
    go_ret
    exact ⟨rfl, HB.out⟩
  simp only [q3, Bool.not_true, Bool.not_false, Bool.true_and]
  rcases Bool.eq_false_or_eq_true ((cls != 0)) with q4 | q4
  skip
  · simp only [q4, Bool.not_true, Bool.not_false, Bool.true_and, Bool.false_and]
    go_enter Try.func57, Try.ntmps57
    go_wp2_with (first | (go_at_call 102; refine (cclassedK _ _).mono ?_; rintro e w2 ⟨rfl, rfl⟩; rw [show classedB 4 = false from rfl]) | (go_at_call 104; refine (ccodedK _ _).mono ?_; rintro e w2 ⟨rfl, rfl⟩; rw [show codedB 4 = false from rfl]) | (go_at_call 105; refine HGP.out.mono ?_; rintro e w2 ⟨rfl, hb2⟩; rw [qG]; have HB2 := hid (HB.out.trans (hb2.mono HB.out.size)); simp only [show ∀ o, (w.alloc o).heap.size = w.heap.size + 1 from fun o => by simp] at hb2; have c0 := cell_box hb2 0; have c5 := cell_box hb2 5; have c6 := cell_box hb2 6; have c7 := cell_box hb2 7; simp only [List.getElem?_toArray, List.getElem?_cons_zero, List.getElem?_cons_succ] at c0 c5 c6 c7; clear hb2))
    go_ret
    exact ⟨rfl, HB.out⟩
  simp only [q4, Bool.not_true, Bool.not_false, Bool.true_and]
  rcases Bool.eq_false_or_eq_true ((size != 0)) with q5 | q5
  skip
  · simp only [q5, Bool.not_true, Bool.not_false, Bool.true_and, Bool.false_and]
    go_enter Try.func57, Try.ntmps57
    go_wp2_with (first | (go_at_call 102; refine (cclassedK _ _).mono ?_; rintro e w2 ⟨rfl, rfl⟩; rw [show classedB 4 = false from rfl]) | (go_at_call 104; refine (ccodedK _ _).mono ?_; rintro e w2 ⟨rfl, rfl⟩; rw [show codedB 4 = false from rfl]) | (go_at_call 105; refine HGP.out.mono ?_; rintro e w2 ⟨rfl, hb2⟩; rw [qG]; have HB2 := hid (HB.out.trans (hb2.mono HB.out.size)); simp only [show ∀ o, (w.alloc o).heap.size = w.heap.size + 1 from fun o => by simp] at hb2; have c0 := cell_box hb2 0; have c5 := cell_box hb2 5; have c6 := cell_box hb2 6; have c7 := cell_box hb2 7; simp only [List.getElem?_toArray, List.getElem?_cons_zero, List.getElem?_cons_succ] at c0 c5 c6 c7; clear hb2))
    go_ret
    exact ⟨rfl, HB.out⟩
  simp only [q5, Bool.not_true, Bool.not_false, Bool.true_and]
  rcases Bool.eq_false_or_eq_true (name.toList.isEmpty) with q6 | q6
  rotate_left
  · simp only [q6, Bool.not_true, Bool.not_false, Bool.true_and, Bool.false_and]
    go_enter Try.func57, Try.ntmps57
    go_wp2_with (first | (go_at_call 102; refine (cclassedK _ _).mono ?_; rintro e w2 ⟨rfl, rfl⟩; rw [show classedB 4 = false from rfl]) | (go_at_call 104; refine (ccodedK _ _).mono ?_; rintro e w2 ⟨rfl, rfl⟩; rw [show codedB 4 = false from rfl]) | (go_at_call 105; refine HGP.out.mono ?_; rintro e w2 ⟨rfl, hb2⟩; rw [qG]; have HB2 := hid (HB.out.trans (hb2.mono HB.out.size)); simp only [show ∀ o, (w.alloc o).heap.size = w.heap.size + 1 from fun o => by simp] at hb2; have c0 := cell_box hb2 0; have c5 := cell_box hb2 5; have c6 := cell_box hb2 6; have c7 := cell_box hb2 7; simp only [List.getElem?_toArray, List.getElem?_cons_zero, List.getElem?_cons_succ] at c0 c5 c6 c7; clear hb2))
    go_ret
    exact ⟨rfl, HB.out⟩
  simp only [q6, Bool.not_true, Bool.not_false, Bool.true_and]
  rcases Bool.eq_false_or_eq_true ((code != 0)) with q7 | q7
  skip
  · simp only [q7, Bool.not_true, Bool.not_false, Bool.true_and, Bool.false_and]
    go_enter Try.func57, Try.ntmps57
    go_wp2_with (first | (go_at_call 102; refine (cclassedK _ _).mono ?_; rintro e w2 ⟨rfl, rfl⟩; rw [show classedB 4 = false from rfl]) | (go_at_call 104; refine (ccodedK _ _).mono ?_; rintro e w2 ⟨rfl, rfl⟩; rw [show codedB 4 = false from rfl]) | (go_at_call 105; refine HGP.out.mono ?_; rintro e w2 ⟨rfl, hb2⟩; rw [qG]; have HB2 := hid (HB.out.trans (hb2.mono HB.out.size)); simp only [show ∀ o, (w.alloc o).heap.size = w.heap.size + 1 from fun o => by simp] at hb2; have c0 := cell_box hb2 0; have c5 := cell_box hb2 5; have c6 := cell_box hb2 6; have c7 := cell_box hb2 7; simp only [List.getElem?_toArray, List.getElem?_cons_zero, List.getElem?_cons_succ] at c0 c5 c6 c7; clear hb2))
    go_ret
    exact ⟨rfl, HB.out⟩
  simp only [q7, Bool.not_true, Bool.not_false, Bool.true_and]
  rcases Bool.eq_false_or_eq_true ((S != 0)) with q8 | q8
  skip
  · simp only [q8, Bool.not_true, Bool.not_false, Bool.true_and, Bool.false_and]
    go_enter Try.func57, Try.ntmps57
    go_wp2_with (first | (go_at_call 102; refine (cclassedK _ _).mono ?_; rintro e w2 ⟨rfl, rfl⟩; rw [show classedB 4 = false from rfl]) | (go_at_call 104; refine (ccodedK _ _).mono ?_; rintro e w2 ⟨rfl, rfl⟩; rw [show codedB 4 = false from rfl]) | (go_at_call 105; refine HGP.out.mono ?_; rintro e w2 ⟨rfl, hb2⟩; rw [qG]; have HB2 := hid (HB.out.trans (hb2.mono HB.out.size)); simp only [show ∀ o, (w.alloc o).heap.size = w.heap.size + 1 from fun o => by simp] at hb2; have c0 := cell_box hb2 0; have c5 := cell_box hb2 5; have c6 := cell_box hb2 6; have c7 := cell_box hb2 7; simp only [List.getElem?_toArray, List.getElem?_cons_zero, List.getElem?_cons_succ] at c0 c5 c6 c7; clear hb2))
    go_ret
    exact ⟨rfl, HB.out⟩
  simp only [q8, Bool.not_true, Bool.not_false, Bool.true_and]
  rcases Bool.eq_false_or_eq_true (Fil.gapsB gaps) with qG | qG
  rotate_left
  · simp only [qG, Bool.not_true, Bool.not_false, Bool.true_and, Bool.false_and]
    go_enter Try.func57, Try.ntmps57
    go_wp2_with (first | (go_at_call 102; refine (cclassedK _ _).mono ?_; rintro e w2 ⟨rfl, rfl⟩; rw [show classedB 4 = false from rfl]) | (go_at_call 104; refine (ccodedK _ _).mono ?_; rintro e w2 ⟨rfl, rfl⟩; rw [show codedB 4 = false from rfl]) | (go_at_call 105; refine HGP.out.mono ?_; rintro e w2 ⟨rfl, hb2⟩; rw [qG]; have HB2 := hid (HB.out.trans (hb2.mono HB.out.size)); simp only [show ∀ o, (w.alloc o).heap.size = w.heap.size + 1 from fun o => by simp] at hb2; have c0 := cell_box hb2 0; have c5 := cell_box hb2 5; have c6 := cell_box hb2 6; have c7 := cell_box hb2 7; simp only [List.getElem?_toArray, List.getElem?_cons_zero, List.getElem?_cons_succ] at c0 c5 c6 c7; clear hb2))
    go_ret
    exact ⟨rfl, HB2.out⟩
  simp only [qG, Bool.not_true, Bool.not_false, Bool.true_and]
  rcases Bool.eq_false_or_eq_true ((off == 0)) with q10 | q10
  rotate_left
  · simp only [q10, Bool.not_true, Bool.not_false, Bool.true_and, Bool.false_and]
    go_enter Try.func57, Try.ntmps57
    go_wp2_with (first | (go_at_call 102; refine (cclassedK _ _).mono ?_; rintro e w2 ⟨rfl, rfl⟩; rw [show classedB 4 = false from rfl]) | (go_at_call 104; refine (ccodedK _ _).mono ?_; rintro e w2 ⟨rfl, rfl⟩; rw [show codedB 4 = false from rfl]) | (go_at_call 105; refine HGP.out.mono ?_; rintro e w2 ⟨rfl, hb2⟩; rw [qG]; have HB2 := hid (HB.out.trans (hb2.mono HB.out.size)); simp only [show ∀ o, (w.alloc o).heap.size = w.heap.size + 1 from fun o => by simp] at hb2; have c0 := cell_box hb2 0; have c5 := cell_box hb2 5; have c6 := cell_box hb2 6; have c7 := cell_box hb2 7; simp only [List.getElem?_toArray, List.getElem?_cons_zero, List.getElem?_cons_succ] at c0 c5 c6 c7; clear hb2))
    go_ret
    exact ⟨rfl, HB2.out⟩
  simp only [q10, Bool.not_true, Bool.not_false, Bool.true_and]
  rcases Bool.eq_false_or_eq_true ((D == 0)) with q11 | q11
  all_goals
    simp only [q11]
    go_enter Try.func57, Try.ntmps57
    go_wp2_with (first | (go_at_call 102; refine (cclassedK _ _).mono ?_; rintro e w2 ⟨rfl, rfl⟩; rw [show classedB 4 = false from rfl]) | (go_at_call 104; refine (ccodedK _ _).mono ?_; rintro e w2 ⟨rfl, rfl⟩; rw [show codedB 4 = false from rfl]) | (go_at_call 105; refine HGP.out.mono ?_; rintro e w2 ⟨rfl, hb2⟩; rw [qG]; have HB2 := hid (HB.out.trans (hb2.mono HB.out.size)); simp only [show ∀ o, (w.alloc o).heap.size = w.heap.size + 1 from fun o => by simp] at hb2; have c0 := cell_box hb2 0; have c5 := cell_box hb2 5; have c6 := cell_box hb2 6; have c7 := cell_box hb2 7; simp only [List.getElem?_toArray, List.getElem?_cons_zero, List.getElem?_cons_succ] at c0 c5 c6 c7; clear hb2))
    go_ret
    exact ⟨rfl, HB2.out⟩
end Go.Proofs.Ytfjadhkhmhnccaa
