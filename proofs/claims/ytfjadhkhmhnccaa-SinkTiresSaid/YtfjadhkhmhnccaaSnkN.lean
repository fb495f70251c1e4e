/- The specification's New; the laws SinkMakes and SinkTires. -/
import Derived.Test.YtfjadhkhmhnccaaSnkK
set_option linter.unusedVariables false
set_option linter.unusedSimpArgs false
namespace Go.Proofs.Ytfjadhkhmhnccaa
open Go.RowKit Go.Proofs.Num
set_option maxRecDepth 100000 in
theorem size28 : ∀ w, (Go.sizeOf 90).run Try.prog w = .ok 23 w := fun w => by first | rfl | simp [go_sem] | kernel_rfl
set_option maxRecDepth 100000 in
theorem info28 : (Try.prog.info? 90).map (·.size) = some 23 := by kernel_rfl
theorem ld28 {W w : World} {l : List HProp} {b : Nat} {cs : Array Value} (hs : cs.size = 23) (h : Sts W (blkP b (.cells cs 90 (0, 0)) :: l) w) : (loadVar 90 ⟨b, 0, none⟩).run Try.prog w = .ok (.agg cs) w := by
  have hb : w.heap[b]? = some (.cells cs 90 (0, 0)) := by obtain ⟨F, hF⟩ := h.head; exact hF.1
  exact run_loadVar_row (P := Try.prog) w b 90 90 cs (0, 0) _ hb Try.underlying90 rfl (by rw [info28, hs])
def cfg28 (chunk timeout retries : Int) : Bool := Fil.withinB chunk 1 512 && Fil.withinB timeout 1 1048576 && Fil.withinB retries 0 255
set_option maxRecDepth 100000 in
set_option maxHeartbeats 2000000 in
theorem cRight28 (w : World) (chunk timeout retries : Int) : Calls Try.prog 48 #[.agg #[.int .i64 chunk, .int .i64 timeout, .int .i64 retries]] w fun e w' => e = .returned (.bool (cfg28 chunk timeout retries)) ∧ Below w.heap.size w w' := by
  unfold cfg28 Fil.withinB
  have HB := hid ((Below.refl w.heap.size w).alloc (Nat.le_refl _) (.cells #[.int .i64 chunk, .int .i64 timeout, .int .i64 retries] 26))
  have HS := (Sts.nil w).alloc stab0 (.cells #[.int .i64 chunk, .int .i64 timeout, .int .i64 retries] 26)
  have c0 := (Sts.boxCell HS 0 _ rfl).1
  have c1 := (Sts.boxCell HS 1 _ rfl).1
  have c2 := (Sts.boxCell HS 2 _ rfl).1
  clear HS
  have h : decide (1 ≤ chunk) = false ∨ (decide (1 ≤ chunk) = true ∧ decide (chunk ≤ 512) = false) ∨ (decide (1 ≤ chunk) = true ∧ decide (chunk ≤ 512) = true ∧ decide (1 ≤ timeout) = false) ∨ (decide (1 ≤ chunk) = true ∧ decide (chunk ≤ 512) = true ∧ decide (1 ≤ timeout) = true ∧ decide (timeout ≤ 1048576) = false) ∨ (decide (1 ≤ chunk) = true ∧ decide (chunk ≤ 512) = true ∧ decide (1 ≤ timeout) = true ∧ decide (timeout ≤ 1048576) = true ∧ decide (0 ≤ retries) = false) ∨ (decide (1 ≤ chunk) = true ∧ decide (chunk ≤ 512) = true ∧ decide (1 ≤ timeout) = true ∧ decide (timeout ≤ 1048576) = true ∧ decide (0 ≤ retries) = true) := by
    cases decide (1 ≤ chunk) <;> cases decide (chunk ≤ 512) <;> cases decide (1 ≤ timeout) <;> cases decide (timeout ≤ 1048576) <;> cases decide (0 ≤ retries) <;> simp
  rcases h with h0 | ⟨h0, h1⟩ | ⟨h0, h1, h2⟩ | ⟨h0, h1, h2, h3⟩ | ⟨h0, h1, h2, h3, h4⟩ | ⟨h0, h1, h2, h3, h4⟩
  all_goals
    (try rw [h0])
    (try rw [h1])
    (try rw [h2])
    (try rw [h3])
    (try rw [h4])
    simp only [Bool.true_and, Bool.false_and, Bool.and_false, Bool.and_true]
    go_enter Try.func48, Try.ntmps48
    go_wp2_with fail
    go_ret
    exact ⟨rfl, HB.out⟩
section
variable (w : World) (src num cls chunk timeout retries : Int)
set_option maxRecDepth 100000 in
set_option maxHeartbeats 2000000 in
theorem cNew28 : Calls Try.prog 49 #[.agg #[.int .i64 src, .int .i64 num], .int .i64 cls, .agg #[.int .i64 chunk, .int .i64 timeout, .int .i64 retries]] w fun e w' => e = .returned (.tuple #[.agg (if Fil.snkB src num cls chunk timeout retries = true then #[.int .i64 src, .int .i64 num, .int .i64 cls, .int .i64 chunk, .int .i64 timeout, .int .i64 retries, .int .i64 0, .int .i64 0, .bool false, .bool false, .bool false, .string ⟨#[]⟩, .bool false, .int .i64 0, .int .u32 0, .slice none 0 0, .slice none 0 0, .int .i64 0, .int .i64 0, .bool false, .bool false, .bool false, .int .i64 0] else #[.int .i64 0, .int .i64 0, .int .i64 0, .int .i64 0, .int .i64 0, .int .i64 0, .int .i64 0, .int .i64 0, .bool false, .bool false, .bool false, .string ⟨#[]⟩, .bool false, .int .i64 0, .int .u32 0, .slice none 0 0, .slice none 0 0, .int .i64 0, .int .i64 0, .bool false, .bool false, .bool false, .int .i64 0]), .int .i64 (if Fil.snkB src num cls chunk timeout retries = true then 0 else 1)]) ∧ Below w.heap.size w w' := by
  obtain ⟨RS, hRS⟩ : ∃ R : Array Value, (if Fil.snkB src num cls chunk timeout retries = true then #[.int .i64 src, .int .i64 num, .int .i64 cls, .int .i64 chunk, .int .i64 timeout, .int .i64 retries, .int .i64 0, .int .i64 0, .bool false, .bool false, .bool false, .string ⟨#[]⟩, .bool false, .int .i64 0, .int .u32 0, .slice none 0 0, .slice none 0 0, .int .i64 0, .int .i64 0, .bool false, .bool false, .bool false, .int .i64 0] else #[.int .i64 0, .int .i64 0, .int .i64 0, .int .i64 0, .int .i64 0, .int .i64 0, .int .i64 0, .int .i64 0, .bool false, .bool false, .bool false, .string ⟨#[]⟩, .bool false, .int .i64 0, .int .u32 0, .slice none 0 0, .slice none 0 0, .int .i64 0, .int .i64 0, .bool false, .bool false, .bool false, .int .i64 0]) = R := ⟨_, rfl⟩
  obtain ⟨cd, hcd⟩ : ∃ R : Int, (if Fil.snkB src num cls chunk timeout retries = true then (0 : Int) else 1) = R := ⟨_, rfl⟩
  rw [hRS, hcd]
  have HRS := hid hRS
  have HCD := hid hcd
  clear hRS hcd
  have hs1 := (Sts.nil w).alloc stab0 (.cells #[.int .i64 src, .int .i64 num] 23)
  have hs2 := hs1.alloc (stab1 (blkP_stable _ _)) (.cells #[.int .i64 chunk, .int .i64 timeout, .int .i64 retries] 26)
  have hs3 := hs2.alloc (stabC (blkP_stable _ _) (stab1 (blkP_stable _ _))) (.cells #[.int .i64 0, .int .i64 0, .int .i64 0, .int .i64 0, .int .i64 0, .int .i64 0, .int .i64 0, .int .i64 0, .bool false, .bool false, .bool false, .string ⟨#[]⟩, .bool false, .int .i64 0, .int .u32 0, .slice none 0 0, .slice none 0 0, .int .i64 0, .int .i64 0, .bool false, .bool false, .bool false, .int .i64 0] 90)
  rw [show ((w.alloc (.cells #[.int .i64 src, .int .i64 num] 23)).alloc (.cells #[.int .i64 chunk, .int .i64 timeout, .int .i64 retries] 26)).heap.size = w.heap.size + 1 + 1 by simp, show (w.alloc (.cells #[.int .i64 src, .int .i64 num] 23)).heap.size = w.heap.size + 1 by simp] at hs3
  have HZ := hid hs3
  have hcf := cRight28 (((w.alloc (.cells #[.int .i64 src, .int .i64 num] 23)).alloc (.cells #[.int .i64 chunk, .int .i64 timeout, .int .i64 retries] 26)).alloc (.cells #[.int .i64 0, .int .i64 0, .int .i64 0, .int .i64 0, .int .i64 0, .int .i64 0, .int .i64 0, .int .i64 0, .bool false, .bool false, .bool false, .string ⟨#[]⟩, .bool false, .int .i64 0, .int .u32 0, .slice none 0 0, .slice none 0 0, .int .i64 0, .int .i64 0, .bool false, .bool false, .bool false, .int .i64 0] 90)) chunk timeout retries
  have d0 := (Sts.boxCell hs3.tail.tail 0 _ rfl).1
  have d1 := (Sts.boxCell hs3.tail.tail 1 _ rfl).1
  have c0 := (Sts.boxCell hs3.tail 0 _ rfl).1
  have c1 := (Sts.boxCell hs3.tail 1 _ rfl).1
  have c2 := (Sts.boxCell hs3.tail 2 _ rfl).1
  have HSB : Hid (Fil.snkB src num cls chunk timeout retries = (!decide (src < 0) && !decide (src > 15) && !decide (num < 0) && !decide (num > 65535) && !decide (cls < 1) && !decide (cls > 2) && cfg28 chunk timeout retries)) := hid (by
    unfold Fil.snkB cfg28 Fil.withinB
    rw [Bool.eq_iff_iff]
    simp only [Bool.and_eq_true, Bool.not_eq_true', decide_eq_true_eq, decide_eq_false_iff_not]
    omega)
  clear hs1 hs2 hs3
  have h : decide (src < 0) = true ∨ (decide (src < 0) = false ∧ decide (src > 15) = true) ∨ (decide (src < 0) = false ∧ decide (src > 15) = false ∧ decide (num < 0) = true) ∨ (decide (src < 0) = false ∧ decide (src > 15) = false ∧ decide (num < 0) = false ∧ decide (num > 65535) = true) ∨ (decide (src < 0) = false ∧ decide (src > 15) = false ∧ decide (num < 0) = false ∧ decide (num > 65535) = false ∧ decide (cls < 1) = true) ∨ (decide (src < 0) = false ∧ decide (src > 15) = false ∧ decide (num < 0) = false ∧ decide (num > 65535) = false ∧ decide (cls < 1) = false ∧ decide (cls > 2) = true) ∨ (decide (src < 0) = false ∧ decide (src > 15) = false ∧ decide (num < 0) = false ∧ decide (num > 65535) = false ∧ decide (cls < 1) = false ∧ decide (cls > 2) = false ∧ cfg28 chunk timeout retries = false) ∨ (decide (src < 0) = false ∧ decide (src > 15) = false ∧ decide (num < 0) = false ∧ decide (num > 65535) = false ∧ decide (cls < 1) = false ∧ decide (cls > 2) = false ∧ cfg28 chunk timeout retries = true) := by
    cases decide (src < 0) <;> cases decide (src > 15) <;> cases decide (num < 0) <;> cases decide (num > 65535) <;> cases decide (cls < 1) <;> cases decide (cls > 2) <;> cases cfg28 chunk timeout retries <;> simp
  have HCF := hid hcf
  clear hcf
  have bad : Hid (Fil.snkB src num cls chunk timeout retries = false → RS = #[.int .i64 0, .int .i64 0, .int .i64 0, .int .i64 0, .int .i64 0, .int .i64 0, .int .i64 0, .int .i64 0, .bool false, .bool false, .bool false, .string ⟨#[]⟩, .bool false, .int .i64 0, .int .u32 0, .slice none 0 0, .slice none 0 0, .int .i64 0, .int .i64 0, .bool false, .bool false, .bool false, .int .i64 0] ∧ cd = 1) := hid fun hb => by
    have e1 := HRS.out; have e2 := HCD.out; rw [hb] at e1 e2
    exact ⟨by rw [← e1]; rfl, by rw [← e2]; rfl⟩
  have good : Hid (Fil.snkB src num cls chunk timeout retries = true → RS = #[.int .i64 src, .int .i64 num, .int .i64 cls, .int .i64 chunk, .int .i64 timeout, .int .i64 retries, .int .i64 0, .int .i64 0, .bool false, .bool false, .bool false, .string ⟨#[]⟩, .bool false, .int .i64 0, .int .u32 0, .slice none 0 0, .slice none 0 0, .int .i64 0, .int .i64 0, .bool false, .bool false, .bool false, .int .i64 0] ∧ cd = 0) := hid fun hb => by
    have e1 := HRS.out; have e2 := HCD.out; rw [hb] at e1 e2
    exact ⟨by rw [← e1]; rfl, by rw [← e2]; rfl⟩
  clear HRS HCD
  rcases h with h0 | ⟨h0, h1⟩ | ⟨h0, h1, h2⟩ | ⟨h0, h1, h2, h3⟩ | ⟨h0, h1, h2, h3, h4⟩ | ⟨h0, h1, h2, h3, h4, h5⟩ | ⟨h0, h1, h2, h3, h4, h5, h6⟩ | ⟨h0, h1, h2, h3, h4, h5, h6⟩
  iterate 7
    (have hb : Fil.snkB src num cls chunk timeout retries = false := by
       rw [HSB.out]; simp only [*, Bool.not_true, Bool.not_false, Bool.true_and, Bool.false_and, Bool.and_false]
     obtain ⟨rfl, rfl⟩ := bad.out hb
     clear HSB bad good hb
     go_enter Try.func49, Try.ntmps49
     go_wp2_with (first | (go_at_call 48; refine HCF.out.mono ?_; rintro e w1 ⟨rfl, hb⟩; have HZ2 := hid (HZ.out.quiet (stabC (blkP_stable _ _) (stabC (blkP_stable _ _) (stab1 (blkP_stable _ _)))) hb); clear hb) | (refine wpList_agg HZ2.out (stabC (blkP_stable _ _) (stab1 (blkP_stable _ _))) rfl (.tmp 6) (.tmp 39) 90 rfl #[.int .i64 0, .int .i64 0, .int .i64 0, .int .i64 0, .int .i64 0, .int .i64 0, .int .i64 0, .int .i64 0, .bool false, .bool false, .bool false, .string ⟨#[]⟩, .bool false, .int .i64 0, .int .u32 0, .slice none 0 0, .slice none 0 0, .int .i64 0, .int .i64 0, .bool false, .bool false, .bool false, .int .i64 0] rfl rfl size28 rfl rfl ?_; intro w5 hz; have HF := hid hz; clear hz) | (refine wpList_agg HZ.out (stabC (blkP_stable _ _) (stab1 (blkP_stable _ _))) rfl (.tmp 6) (.tmp 39) 90 rfl #[.int .i64 0, .int .i64 0, .int .i64 0, .int .i64 0, .int .i64 0, .int .i64 0, .int .i64 0, .int .i64 0, .bool false, .bool false, .bool false, .string ⟨#[]⟩, .bool false, .int .i64 0, .int .u32 0, .slice none 0 0, .slice none 0 0, .int .i64 0, .int .i64 0, .bool false, .bool false, .bool false, .int .i64 0] rfl rfl size28 rfl rfl ?_; intro w5 hz; have HF := hid hz; clear hz))
     exact post_cell2 HF.out Try.results49 rfl rfl (ld28 rfl HF.out) _ rfl ⟨rfl, HF.out.below⟩)
  have hb : Fil.snkB src num cls chunk timeout retries = true := by
    rw [HSB.out]; simp only [*, Bool.not_true, Bool.not_false, Bool.true_and, Bool.false_and, Bool.and_false]
  obtain ⟨rfl, rfl⟩ := good.out hb
  clear HSB bad good hb
  go_enter Try.func49, Try.ntmps49
  go_wp2_with (first | (go_at_call 48; refine HCF.out.mono ?_; rintro e w1 ⟨rfl, hb⟩; rw [h6]; have HZ2 := hid (HZ.out.quiet (stabC (blkP_stable _ _) (stabC (blkP_stable _ _) (stab1 (blkP_stable _ _)))) hb); have d0 := (Sts.boxCell HZ2.out.tail.tail 0 _ rfl).1; have d1 := (Sts.boxCell HZ2.out.tail.tail 1 _ rfl).1; have c0 := (Sts.boxCell HZ2.out.tail 0 _ rfl).1; have c1 := (Sts.boxCell HZ2.out.tail 1 _ rfl).1; have c2 := (Sts.boxCell HZ2.out.tail 2 _ rfl).1; clear hb) | (refine wpList_agg HZ2.out (stabC (blkP_stable _ _) (stab1 (blkP_stable _ _))) rfl (.tmp 6) (.tmp 43) 90 rfl #[.int .i64 src, .int .i64 num, .int .i64 cls, .int .i64 chunk, .int .i64 timeout, .int .i64 retries, .int .i64 0, .int .i64 0, .bool false, .bool false, .bool false, .string ⟨#[]⟩, .bool false, .int .i64 0, .int .u32 0, .slice none 0 0, .slice none 0 0, .int .i64 0, .int .i64 0, .bool false, .bool false, .bool false, .int .i64 0] rfl rfl size28 rfl rfl ?_; intro w5 hz; have HF := hid hz; clear hz))
  exact post_cell2 HF.out Try.results49 rfl rfl (ld28 rfl HF.out) _ rfl ⟨rfl, HF.out.below⟩
set_option maxRecDepth 100000 in
set_option maxHeartbeats 4000000 in
theorem makes_all : Calls Try.prog 12 #[.agg #[.int .i64 src, .int .i64 num, .int .i64 cls, .int .i64 chunk, .int .i64 timeout, .int .i64 retries]] w fun e w' => e = .returned (.bool true) ∧ Below w.heap.size w w' := by
  have hA : Sts w [blkP w.heap.size (.cells #[.int .i64 src, .int .i64 num, .int .i64 cls, .int .i64 chunk, .int .i64 timeout, .int .i64 retries] 88 (0, 0))] (w.alloc (.cells #[.int .i64 src, .int .i64 num, .int .i64 cls, .int .i64 chunk, .int .i64 timeout, .int .i64 retries] 88)) := (Sts.nil w).alloc stab0 (.cells #[.int .i64 src, .int .i64 num, .int .i64 cls, .int .i64 chunk, .int .i64 timeout, .int .i64 retries] 88 (0, 0))
  have c0 := (Sts.boxCell hA 0 _ rfl).1
  have c1 := (Sts.boxCell hA 1 _ rfl).1
  have c2 := (Sts.boxCell hA 2 _ rfl).1
  have c3 := (Sts.boxCell hA 3 _ rfl).1
  have c4 := (Sts.boxCell hA 4 _ rfl).1
  have c5 := (Sts.boxCell hA 5 _ rfl).1
  have HA := hid hA
  clear hA
  cases hb : Fil.snkB src num cls chunk timeout retries with
  | true =>
    have HNB := hid hb
    clear hb
    go_enter Try.func12, Try.ntmps12
    go_wp2_with fail
    clear c0 c1 c2 c3 c4 c5
    refine (cKNewOk (stab1 (blkP_stable _ _)) src num cls chunk timeout retries HA.out HNB.out).mono ?_
    rintro e w1 ⟨q, rfl, h⟩
    have H1 := hid h
    clear h HA
    have c0 := (Sts.boxCell H1.out.tail 0 _ rfl).1
    have c1 := (Sts.boxCell H1.out.tail 1 _ rfl).1
    have c2 := (Sts.boxCell H1.out.tail 2 _ rfl).1
    have c3 := (Sts.boxCell H1.out.tail 3 _ rfl).1
    have c4 := (Sts.boxCell H1.out.tail 4 _ rfl).1
    have c5 := (Sts.boxCell H1.out.tail 5 _ rfl).1
    go_wp2_with fail
    clear c0 c1 c2 c3 c4 c5
    have hr := cNew28 w1 src num cls chunk timeout retries
    rw [HNB.out] at hr
    refine hr.mono ?_
    rintro e w2 ⟨rfl, hb⟩
    have H2 := hid (H1.out.quiet (stabC (snkP_stable _ _) (stab1 (blkP_stable _ _))) hb)
    have HX0 := hid (H2.out.alloc (stabC (snkP_stable _ _) (stab1 (blkP_stable _ _))) (.cells #[.int .i64 0, .int .i64 0, .int .i64 0, .int .i64 0, .int .i64 0, .int .i64 0, .int .i64 0, .int .i64 0, .bool false, .bool false, .bool false, .string ⟨#[]⟩, .bool false, .int .i64 0, .int .u32 0, .slice none 0 0, .slice none 0 0, .int .i64 0, .int .i64 0, .bool false, .bool false, .bool false, .int .i64 0] 90 (0, 0)))
    clear hb hr H1
    simp only [if_true]
    go_wp2_with (first | (refine wpList_agg HX0.out (stabC (snkP_stable _ _) (stab1 (blkP_stable _ _))) rfl (.tmp 5) (.tmp 27) 90 rfl #[.int .i64 src, .int .i64 num, .int .i64 cls, .int .i64 chunk, .int .i64 timeout, .int .i64 retries, .int .i64 0, .int .i64 0, .bool false, .bool false, .bool false, .string ⟨#[]⟩, .bool false, .int .i64 0, .int .u32 0, .slice none 0 0, .slice none 0 0, .int .i64 0, .int .i64 0, .bool false, .bool false, .bool false, .int .i64 0] rfl rfl size28 rfl rfl ?_; intro w7 hz; have HW := hid hz.tail; clear hz HX0) | (go_at_call 42; refine (cStateK q _ HW.out).mono ?_; rintro e w8 ⟨rfl, rfl⟩) | (go_at_call 32; refine (cAlive28 _).mono ?_; rintro e w9 ⟨rfl, hb9⟩; have H9 := hid (HW.out.below.trans (hb9.mono HW.out.below.size)); clear hb9))
    go_ret
    exact ⟨rfl, H9.out⟩
  | false =>
    have HNB := hid hb
    clear hb
    go_enter Try.func12, Try.ntmps12
    go_wp2_with fail
    clear c0 c1 c2 c3 c4 c5
    refine (cKNewBad src num cls chunk timeout retries HNB.out).mono ?_
    rintro e w1 ⟨rfl, h⟩
    have H1 := hid (HA.out.quiet (stab1 (blkP_stable _ _)) h)
    clear h HA
    have c0 := (Sts.boxCell H1.out 0 _ rfl).1
    have c1 := (Sts.boxCell H1.out 1 _ rfl).1
    have c2 := (Sts.boxCell H1.out 2 _ rfl).1
    have c3 := (Sts.boxCell H1.out 3 _ rfl).1
    have c4 := (Sts.boxCell H1.out 4 _ rfl).1
    have c5 := (Sts.boxCell H1.out 5 _ rfl).1
    go_wp2_with fail
    clear c0 c1 c2 c3 c4 c5
    have hr := cNew28 w1 src num cls chunk timeout retries
    rw [HNB.out] at hr
    refine hr.mono ?_
    rintro e w2 ⟨rfl, hb⟩
    have H2 := hid (H1.out.quiet (stab1 (blkP_stable _ _)) hb)
    have HX0 := hid (H2.out.alloc (stab1 (blkP_stable _ _)) (.cells #[.int .i64 0, .int .i64 0, .int .i64 0, .int .i64 0, .int .i64 0, .int .i64 0, .int .i64 0, .int .i64 0, .bool false, .bool false, .bool false, .string ⟨#[]⟩, .bool false, .int .i64 0, .int .u32 0, .slice none 0 0, .slice none 0 0, .int .i64 0, .int .i64 0, .bool false, .bool false, .bool false, .int .i64 0] 90 (0, 0)))
    clear hb hr H1
    simp only [Bool.false_eq_true, if_false]
    go_wp2_with (first | (refine wpList_agg HX0.out (stab1 (blkP_stable _ _)) rfl (.tmp 5) (.tmp 27) 90 rfl #[.int .i64 0, .int .i64 0, .int .i64 0, .int .i64 0, .int .i64 0, .int .i64 0, .int .i64 0, .int .i64 0, .bool false, .bool false, .bool false, .string ⟨#[]⟩, .bool false, .int .i64 0, .int .u32 0, .slice none 0 0, .slice none 0 0, .int .i64 0, .int .i64 0, .bool false, .bool false, .bool false, .int .i64 0] rfl rfl size28 rfl rfl ?_; intro w7 hz; have HW := hid hz.tail; clear hz HX0))
    refine (cNilNext _ 1).mono ?_
    rintro e w8 ⟨rfl, hb⟩
    have H8 := hid (HW.out.quiet (stab1 (blkP_stable _ _)) hb)
    have HX1 := hid (H8.out.alloc (stab1 (blkP_stable _ _)) (.cells zeroPdu 45 (0, 0)))
    clear hb HW
    go_wp2_with (first | (refine wpList_agg HX1.out (stab1 (blkP_stable _ _)) rfl (.tmp 7) (.tmp 50) 45 rfl zeroPdu rfl rfl sizePdu rfl rfl ?_; intro w10 hz; have HB0 := hid hz.tail.below; clear hz HX1))
    refine (cNilTake _ 1).mono ?_
    rintro e w20 ⟨rfl, hb⟩
    have HB1 := hid (HB0.out.trans (hb.mono HB0.out.size))
    clear hb HB0
    go_wp2_with fail
    refine (cNilClose _ 0 1).mono ?_
    rintro e w21 ⟨rfl, hb⟩
    have HB2 := hid (HB1.out.trans (hb.mono HB1.out.size))
    clear hb HB1
    go_wp2_with fail
    refine (cNilSusp _ 1).mono ?_
    rintro e w22 ⟨rfl, hb⟩
    have HB3 := hid (HB2.out.trans (hb.mono HB2.out.size))
    clear hb HB2
    go_wp2_with fail
    refine (cNilRes _ 1).mono ?_
    rintro e w23 ⟨rfl, hb⟩
    have HB4 := hid (HB3.out.trans (hb.mono HB3.out.size))
    clear hb HB3
    go_wp2_with fail
    refine (cNilState _).mono ?_
    rintro e w24 ⟨rfl, hb⟩
    have HB5 := hid (HB4.out.trans (hb.mono HB4.out.size))
    clear hb HB4
    go_wp2_with fail
    refine (cNilMiss _).mono ?_
    rintro e w25 ⟨rfl, hb⟩
    have HB6 := hid (HB5.out.trans (hb.mono HB5.out.size))
    clear hb HB5
    go_wp2_with fail
    refine (cNilClone _).mono ?_
    rintro e w26 ⟨rfl, hb⟩
    have HB7 := hid (HB6.out.trans (hb.mono HB6.out.size))
    clear hb HB6
    go_wp2_with fail
    refine (cAlive28 _).mono ?_
    rintro e w27 ⟨rfl, hb⟩
    have HB8 := hid (HB7.out.trans (hb.mono HB7.out.size))
    clear hb HB7
    go_wp2_with fail
    go_ret
    exact ⟨rfl, HB8.out⟩
end
end Go.Proofs.Ytfjadhkhmhnccaa
