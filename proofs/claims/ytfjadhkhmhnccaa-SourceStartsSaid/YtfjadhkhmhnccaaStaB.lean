/- The specification's configuration, New and State; SourceStarts. -/
import Derived.Test.YtfjadhkhmhnccaaStaA
import Derived.Test.YtfjadhkhmhnccaaStaS
import Derived.Laws.ResultCell
import Derived.Test.YtfjadhkhmhnccaaSrcOrdA
import Derived.Test.YtfjadhkhmhnccaaSrcLivB
set_option linter.unusedVariables false
set_option linter.unusedSimpArgs false
namespace Go.Proofs.Ytfjadhkhmhnccaa
open Go.RowKit Go.Proofs.Num Go.ChangeShapes
def cfgB (chunk timeout retries : Int) : Bool := Fil.withinB chunk 1 512 && Fil.withinB timeout 1 1048576 && Fil.withinB retries 0 255
set_option maxRecDepth 100000 in
theorem cConfig (w : World) (chunk timeout retries : Int) : Calls Try.prog 58 #[.agg #[.int .i64 chunk, .int .i64 timeout, .int .i64 retries]] w fun e w' => e = .returned (.bool (cfgB chunk timeout retries)) ∧ Below w.heap.size w w' := by
  have HB := hid ((Below.refl w.heap.size w).alloc (Nat.le_refl _) (.cells #[.int .i64 chunk, .int .i64 timeout, .int .i64 retries] 26))
  cases hc : cfgB chunk timeout retries with
  | true =>
    have h : decide (chunk ≥ 1) = true ∧ decide (chunk ≤ 512) = true ∧ decide (timeout ≥ 1) = true ∧ decide (timeout ≤ 1048576) = true ∧ decide (retries ≥ 0) = true ∧ decide (retries ≤ 255) = true := by
      unfold cfgB Fil.withinB at hc
      simp only [Bool.and_eq_true, decide_eq_true_eq] at hc ⊢
      omega
    clear hc
    obtain ⟨h0, h1, h2, h3, h4, h5⟩ := h
    go_enter Try.func58, Try.ntmps58
    go_wp2_with fail
    go_ret
    exact ⟨rfl, HB.out⟩
  | false =>
    have h : (decide (chunk ≥ 1) = false) ∨ (decide (chunk ≥ 1) = true ∧ decide (chunk ≤ 512) = false) ∨ (decide (chunk ≥ 1) = true ∧ decide (chunk ≤ 512) = true ∧ decide (timeout ≥ 1) = false) ∨ (decide (chunk ≥ 1) = true ∧ decide (chunk ≤ 512) = true ∧ decide (timeout ≥ 1) = true ∧ decide (timeout ≤ 1048576) = false) ∨ (decide (chunk ≥ 1) = true ∧ decide (chunk ≤ 512) = true ∧ decide (timeout ≥ 1) = true ∧ decide (timeout ≤ 1048576) = true ∧ decide (retries ≥ 0) = false) ∨ (decide (chunk ≥ 1) = true ∧ decide (chunk ≤ 512) = true ∧ decide (timeout ≥ 1) = true ∧ decide (timeout ≤ 1048576) = true ∧ decide (retries ≥ 0) = true ∧ decide (retries ≤ 255) = false) := by
      unfold cfgB Fil.withinB at hc
      simp only [Bool.and_eq_false_iff, decide_eq_true_eq, decide_eq_false_iff_not] at hc ⊢
      omega
    clear hc
    rcases h with h0 | ⟨h0, h1⟩ | ⟨h0, h1, h2⟩ | ⟨h0, h1, h2, h3⟩ | ⟨h0, h1, h2, h3, h4⟩ | ⟨h0, h1, h2, h3, h4, h5⟩
    all_goals
      go_enter Try.func58, Try.ntmps58
      go_wp2_with fail
      go_ret
      exact ⟨rfl, HB.out⟩
theorem newB_eq (src num cls : Int) (name : ByteArray) (n : Nat) (chunk timeout retries : Int) : Fil.newB src num cls name n chunk timeout retries = ((Fil.headP src num cls name n).validB && cfgB chunk timeout retries) := by
  unfold Fil.newB cfgB
  simp only [Bool.and_assoc]
set_option maxRecDepth 100000 in
theorem size20 : ∀ w, (Go.sizeOf 38).run Try.prog w = .ok 20 w := fun w => by first | rfl | simp [go_sem] | kernel_rfl
section
variable (w : World) (src num cls chunk timeout retries : Int) (name : ByteArray) (da : Option Addr) (n dc : Nat) (hs : name.size ≤ 1000000)
include hs
set_option maxRecDepth 100000 in
set_option maxHeartbeats 4000000 in
theorem cRefNewOk (hv : (Fil.headP src num cls name n).validB = true) (hc : cfgB chunk timeout retries = true) : Calls Try.prog 16 #[.agg #[.int .i64 src, .int .i64 num], .int .i64 cls, .string name, .slice da n dc, .agg #[.int .i64 chunk, .int .i64 timeout, .int .i64 retries]] w fun e w' => e = .returned (.tuple #[.agg #[.int .i64 src, .int .i64 num, .int .i64 cls, .string name, .slice da n dc, .int .i64 chunk, .int .i64 timeout, .int .i64 retries, .int .i64 1, .int .i64 0, .int .i64 0, .int .i64 0, .int .i64 0, .bool false, .bool false, .bool false, .bool false, .bool false, .slice none 0 0, .int .i64 0], .int .i64 0]) ∧ Below w.heap.size w w' := by
  have HRH : Hid (∀ y, Calls Try.prog 57 #[.agg #[.int .i64 1, .int .i64 src, .int .i64 num, .int .i64 cls, .string name, .int .i64 (n : Int), .int .i64 0, .slice none 0 0, .int .u32 0, .int .i64 0, .slice none 0 0]] y fun e w' => e = .returned (.bool true) ∧ Below y.heap.size y w') := hid fun y => by have h := cRefHead y src num cls name n hs; rw [hv] at h; exact h
  have HCF : Hid (∀ y, Calls Try.prog 58 #[.agg #[.int .i64 chunk, .int .i64 timeout, .int .i64 retries]] y fun e w' => e = .returned (.bool true) ∧ Below y.heap.size y w') := hid fun y => by have h := cConfig y chunk timeout retries; rw [hc] at h; exact h
  clear hc
  clear hv
  have e1 : (w.alloc (.cells #[.int .i64 src, .int .i64 num] 23)).heap.size = w.heap.size + 1 := by show (w.heap.push _).size = _; simp
  have e2 : ((w.alloc (.cells #[.int .i64 src, .int .i64 num] 23)).alloc (.cells #[.int .i64 chunk, .int .i64 timeout, .int .i64 retries] 26)).heap.size = w.heap.size + 2 := by show ((w.alloc (.cells #[.int .i64 src, .int .i64 num] 23)).heap.push _).size = _; rw [Array.size_push, e1]
  have h1 := (Sts.nil w).alloc stab0 (.cells #[.int .i64 src, .int .i64 num] 23)
  have h2 := h1.alloc (stabC (blkP_stable _ _) stab0) (.cells #[.int .i64 chunk, .int .i64 timeout, .int .i64 retries] 26)
  have h3 := h2.alloc (stabC (blkP_stable _ _) (stabC (blkP_stable _ _) stab0)) (.cells #[.int .i64 0, .int .i64 0, .int .i64 0, .string ⟨#[]⟩, .slice none 0 0, .int .i64 0, .int .i64 0, .int .i64 0, .int .i64 0, .int .i64 0, .int .i64 0, .int .i64 0, .int .i64 0, .bool false, .bool false, .bool false, .bool false, .bool false, .slice none 0 0, .int .i64 0] 38)
  rw [e1, e2] at h3
  have H4 : Hid (Sts w [blkP (w.heap.size + 2) (.cells #[.int .i64 0, .int .i64 0, .int .i64 0, .string ⟨#[]⟩, .slice none 0 0, .int .i64 0, .int .i64 0, .int .i64 0, .int .i64 0, .int .i64 0, .int .i64 0, .int .i64 0, .int .i64 0, .bool false, .bool false, .bool false, .bool false, .bool false, .slice none 0 0, .int .i64 0] 38 (0, 0)), blkP (w.heap.size + 1) (.cells #[.int .i64 chunk, .int .i64 timeout, .int .i64 retries] 26 (0, 0)), blkP w.heap.size (.cells #[.int .i64 src, .int .i64 num] 23 (0, 0))] ((((w.alloc (.cells #[.int .i64 src, .int .i64 num] 23)).alloc (.cells #[.int .i64 chunk, .int .i64 timeout, .int .i64 retries] 26)).alloc (.cells #[.int .i64 0, .int .i64 0, .int .i64 0, .string ⟨#[]⟩, .slice none 0 0, .int .i64 0, .int .i64 0, .int .i64 0, .int .i64 0, .int .i64 0, .int .i64 0, .int .i64 0, .int .i64 0, .bool false, .bool false, .bool false, .bool false, .bool false, .slice none 0 0, .int .i64 0] 38)).alloc (.cells #[.int .i64 1, .int .i64 src, .int .i64 num, .int .i64 cls, .string name, .int .i64 (n : Int), .int .i64 0, .slice none 0 0, .int .u32 0, .int .i64 0, .slice none 0 0] 45))) := hid (Sts.box (stabC (blkP_stable _ _) (stabC (blkP_stable _ _) (stabC (blkP_stable _ _) stab0))) h3 _)
  clear h1 h2 h3 e1 e2
  go_enter Try.func16, Try.ntmps16
  go_wp2_with (first | (go_at_call 57; refine (HRH.out _).mono ?_; rintro e w5 ⟨rfl, hb⟩; have H5 := hid (H4.out.quiet (stabC (blkP_stable _ _) (stabC (blkP_stable _ _) (stabC (blkP_stable _ _) stab0))) hb); clear hb H4; have c0 := (Sts.boxCell H5.out.tail 0 _ rfl).1; have c1 := (Sts.boxCell H5.out.tail 1 _ rfl).1; have c2 := (Sts.boxCell H5.out.tail 2 _ rfl).1; have d0 := (Sts.boxCell H5.out.tail.tail 0 _ rfl).1; have d1 := (Sts.boxCell H5.out.tail.tail 1 _ rfl).1) | (go_at_call 58; refine (HCF.out _).mono ?_; rintro e w6 ⟨rfl, hb⟩; have H6 := hid (H5.out.quiet (stabC (blkP_stable _ _) (stabC (blkP_stable _ _) (stabC (blkP_stable _ _) stab0))) hb); clear hb H5 c0 c1 c2 d0 d1; have c0 := (Sts.boxCell H6.out.tail 0 _ rfl).1; have c1 := (Sts.boxCell H6.out.tail 1 _ rfl).1; have c2 := (Sts.boxCell H6.out.tail 2 _ rfl).1; have d0 := (Sts.boxCell H6.out.tail.tail 0 _ rfl).1; have d1 := (Sts.boxCell H6.out.tail.tail 1 _ rfl).1) | (refine wpList_store_agg H6.out (stabC (blkP_stable _ _) (stabC (blkP_stable _ _) stab0)) rfl (.tmp 10) (.tmp 33) 38 rfl #[.int .i64 src, .int .i64 num, .int .i64 cls, .string name, .slice da n dc, .int .i64 chunk, .int .i64 timeout, .int .i64 retries, .int .i64 1, .int .i64 0, .int .i64 0, .int .i64 0, .int .i64 0, .bool false, .bool false, .bool false, .bool false, .bool false, .slice none 0 0, .int .i64 0] rfl rfl size20 rfl (fun v hv => List.all_eq_true.1 (show (#[.int .i64 src, .int .i64 num, .int .i64 cls, .string name, .slice da n dc, .int .i64 chunk, .int .i64 timeout, .int .i64 retries, .int .i64 1, .int .i64 0, .int .i64 0, .int .i64 0, .int .i64 0, .bool false, .bool false, .bool false, .bool false, .bool false, .slice none 0 0, .int .i64 0].toList).all (fun v => v.oneCell') = true from rfl) v hv) (by kernel_rfl) ?_; intro w7 hZ; have HZ := hid hZ; clear hZ H6))
  have hgb : w7.heap[w.heap.size + 2]? = some (.cells #[.int .i64 src, .int .i64 num, .int .i64 cls, .string name, .slice da n dc, .int .i64 chunk, .int .i64 timeout, .int .i64 retries, .int .i64 1, .int .i64 0, .int .i64 0, .int .i64 0, .int .i64 0, .bool false, .bool false, .bool false, .bool false, .bool false, .slice none 0 0, .int .i64 0] 38 (0, 0)) := by obtain ⟨F, hF⟩ := HZ.out.head; exact hF.1
  have hld := run_loadVar_row (P := Try.prog) w7 (w.heap.size + 2) 38 38 #[.int .i64 src, .int .i64 num, .int .i64 cls, .string name, .slice da n dc, .int .i64 chunk, .int .i64 timeout, .int .i64 retries, .int .i64 1, .int .i64 0, .int .i64 0, .int .i64 0, .int .i64 0, .bool false, .bool false, .bool false, .bool false, .bool false, .slice none 0 0, .int .i64 0] (0, 0) _ hgb Try.underlying38 rfl (by kernel_rfl)
  have HF := hid HZ.out.below
  clear HZ hgb
  refine bodyPost_ret (v := .tuple #[.agg #[.int .i64 src, .int .i64 num, .int .i64 cls, .string name, .slice da n dc, .int .i64 chunk, .int .i64 timeout, .int .i64 retries, .int .i64 1, .int .i64 0, .int .i64 0, .int .i64 0, .int .i64 0, .bool false, .bool false, .bool false, .bool false, .bool false, .slice none 0 0, .int .i64 0], .int .i64 0]) ?_ rfl ⟨rfl, HF.out⟩
  rw [results_cell_tmp Try.results16]
  show ((asAddr (.pointer (some ⟨w.heap.size + 2, 0, none⟩))).run Try.prog w7).andThen _ = _
  rw [show (asAddr (.pointer (some ⟨w.heap.size + 2, 0, none⟩))).run Try.prog w7 = .ok ⟨w.heap.size + 2, 0, none⟩ w7 by simp [asAddr]]
  show ((loadVar 38 ⟨w.heap.size + 2, 0, none⟩).run Try.prog w7).andThen _ = _
  rw [hld]
  rfl
set_option maxRecDepth 100000 in
set_option maxHeartbeats 4000000 in
theorem cRefNewCfg (hv : (Fil.headP src num cls name n).validB = true) (hc : cfgB chunk timeout retries = false) : Calls Try.prog 16 #[.agg #[.int .i64 src, .int .i64 num], .int .i64 cls, .string name, .slice da n dc, .agg #[.int .i64 chunk, .int .i64 timeout, .int .i64 retries]] w fun e w' => e = .returned (.tuple #[.agg #[.int .i64 0, .int .i64 0, .int .i64 0, .string ⟨#[]⟩, .slice none 0 0, .int .i64 0, .int .i64 0, .int .i64 0, .int .i64 0, .int .i64 0, .int .i64 0, .int .i64 0, .int .i64 0, .bool false, .bool false, .bool false, .bool false, .bool false, .slice none 0 0, .int .i64 0], .int .i64 1]) ∧ Below w.heap.size w w' := by
  have HRH : Hid (∀ y, Calls Try.prog 57 #[.agg #[.int .i64 1, .int .i64 src, .int .i64 num, .int .i64 cls, .string name, .int .i64 (n : Int), .int .i64 0, .slice none 0 0, .int .u32 0, .int .i64 0, .slice none 0 0]] y fun e w' => e = .returned (.bool true) ∧ Below y.heap.size y w') := hid fun y => by have h := cRefHead y src num cls name n hs; rw [hv] at h; exact h
  have HCF : Hid (∀ y, Calls Try.prog 58 #[.agg #[.int .i64 chunk, .int .i64 timeout, .int .i64 retries]] y fun e w' => e = .returned (.bool false) ∧ Below y.heap.size y w') := hid fun y => by have h := cConfig y chunk timeout retries; rw [hc] at h; exact h
  clear hc
  clear hv
  have e1 : (w.alloc (.cells #[.int .i64 src, .int .i64 num] 23)).heap.size = w.heap.size + 1 := by show (w.heap.push _).size = _; simp
  have e2 : ((w.alloc (.cells #[.int .i64 src, .int .i64 num] 23)).alloc (.cells #[.int .i64 chunk, .int .i64 timeout, .int .i64 retries] 26)).heap.size = w.heap.size + 2 := by show ((w.alloc (.cells #[.int .i64 src, .int .i64 num] 23)).heap.push _).size = _; rw [Array.size_push, e1]
  have h1 := (Sts.nil w).alloc stab0 (.cells #[.int .i64 src, .int .i64 num] 23)
  have h2 := h1.alloc (stabC (blkP_stable _ _) stab0) (.cells #[.int .i64 chunk, .int .i64 timeout, .int .i64 retries] 26)
  have h3 := h2.alloc (stabC (blkP_stable _ _) (stabC (blkP_stable _ _) stab0)) (.cells #[.int .i64 0, .int .i64 0, .int .i64 0, .string ⟨#[]⟩, .slice none 0 0, .int .i64 0, .int .i64 0, .int .i64 0, .int .i64 0, .int .i64 0, .int .i64 0, .int .i64 0, .int .i64 0, .bool false, .bool false, .bool false, .bool false, .bool false, .slice none 0 0, .int .i64 0] 38)
  rw [e1, e2] at h3
  have H4 : Hid (Sts w [blkP (w.heap.size + 2) (.cells #[.int .i64 0, .int .i64 0, .int .i64 0, .string ⟨#[]⟩, .slice none 0 0, .int .i64 0, .int .i64 0, .int .i64 0, .int .i64 0, .int .i64 0, .int .i64 0, .int .i64 0, .int .i64 0, .bool false, .bool false, .bool false, .bool false, .bool false, .slice none 0 0, .int .i64 0] 38 (0, 0)), blkP (w.heap.size + 1) (.cells #[.int .i64 chunk, .int .i64 timeout, .int .i64 retries] 26 (0, 0)), blkP w.heap.size (.cells #[.int .i64 src, .int .i64 num] 23 (0, 0))] ((((w.alloc (.cells #[.int .i64 src, .int .i64 num] 23)).alloc (.cells #[.int .i64 chunk, .int .i64 timeout, .int .i64 retries] 26)).alloc (.cells #[.int .i64 0, .int .i64 0, .int .i64 0, .string ⟨#[]⟩, .slice none 0 0, .int .i64 0, .int .i64 0, .int .i64 0, .int .i64 0, .int .i64 0, .int .i64 0, .int .i64 0, .int .i64 0, .bool false, .bool false, .bool false, .bool false, .bool false, .slice none 0 0, .int .i64 0] 38)).alloc (.cells #[.int .i64 1, .int .i64 src, .int .i64 num, .int .i64 cls, .string name, .int .i64 (n : Int), .int .i64 0, .slice none 0 0, .int .u32 0, .int .i64 0, .slice none 0 0] 45))) := hid (Sts.box (stabC (blkP_stable _ _) (stabC (blkP_stable _ _) (stabC (blkP_stable _ _) stab0))) h3 _)
  clear h1 h2 h3 e1 e2
  go_enter Try.func16, Try.ntmps16
  go_wp2_with (first | (go_at_call 57; refine (HRH.out _).mono ?_; rintro e w5 ⟨rfl, hb⟩; have H5 := hid (H4.out.quiet (stabC (blkP_stable _ _) (stabC (blkP_stable _ _) (stabC (blkP_stable _ _) stab0))) hb); clear hb H4; have c0 := (Sts.boxCell H5.out.tail 0 _ rfl).1; have c1 := (Sts.boxCell H5.out.tail 1 _ rfl).1; have c2 := (Sts.boxCell H5.out.tail 2 _ rfl).1; have d0 := (Sts.boxCell H5.out.tail.tail 0 _ rfl).1; have d1 := (Sts.boxCell H5.out.tail.tail 1 _ rfl).1) | (go_at_call 58; refine (HCF.out _).mono ?_; rintro e w6 ⟨rfl, hb⟩; have H6 := hid (H5.out.quiet (stabC (blkP_stable _ _) (stabC (blkP_stable _ _) (stabC (blkP_stable _ _) stab0))) hb); clear hb H5 c0 c1 c2 d0 d1; have c0 := (Sts.boxCell H6.out.tail 0 _ rfl).1; have c1 := (Sts.boxCell H6.out.tail 1 _ rfl).1; have c2 := (Sts.boxCell H6.out.tail 2 _ rfl).1; have d0 := (Sts.boxCell H6.out.tail.tail 0 _ rfl).1; have d1 := (Sts.boxCell H6.out.tail.tail 1 _ rfl).1) | (refine wpList_store_agg H6.out (stabC (blkP_stable _ _) (stabC (blkP_stable _ _) stab0)) rfl (.tmp 10) (.tmp 27) 38 rfl #[.int .i64 0, .int .i64 0, .int .i64 0, .string ⟨#[]⟩, .slice none 0 0, .int .i64 0, .int .i64 0, .int .i64 0, .int .i64 0, .int .i64 0, .int .i64 0, .int .i64 0, .int .i64 0, .bool false, .bool false, .bool false, .bool false, .bool false, .slice none 0 0, .int .i64 0] rfl rfl size20 rfl (fun v hv => List.all_eq_true.1 (show (#[.int .i64 0, .int .i64 0, .int .i64 0, .string ⟨#[]⟩, .slice none 0 0, .int .i64 0, .int .i64 0, .int .i64 0, .int .i64 0, .int .i64 0, .int .i64 0, .int .i64 0, .int .i64 0, .bool false, .bool false, .bool false, .bool false, .bool false, .slice none 0 0, .int .i64 0].toList).all (fun v => v.oneCell') = true from rfl) v hv) (by kernel_rfl) ?_; intro w7 hZ; have HZ := hid hZ; clear hZ H6))
  have hgb : w7.heap[w.heap.size + 2]? = some (.cells #[.int .i64 0, .int .i64 0, .int .i64 0, .string ⟨#[]⟩, .slice none 0 0, .int .i64 0, .int .i64 0, .int .i64 0, .int .i64 0, .int .i64 0, .int .i64 0, .int .i64 0, .int .i64 0, .bool false, .bool false, .bool false, .bool false, .bool false, .slice none 0 0, .int .i64 0] 38 (0, 0)) := by obtain ⟨F, hF⟩ := HZ.out.head; exact hF.1
  have hld := run_loadVar_row (P := Try.prog) w7 (w.heap.size + 2) 38 38 #[.int .i64 0, .int .i64 0, .int .i64 0, .string ⟨#[]⟩, .slice none 0 0, .int .i64 0, .int .i64 0, .int .i64 0, .int .i64 0, .int .i64 0, .int .i64 0, .int .i64 0, .int .i64 0, .bool false, .bool false, .bool false, .bool false, .bool false, .slice none 0 0, .int .i64 0] (0, 0) _ hgb Try.underlying38 rfl (by kernel_rfl)
  have HF := hid HZ.out.below
  clear HZ hgb
  refine bodyPost_ret (v := .tuple #[.agg #[.int .i64 0, .int .i64 0, .int .i64 0, .string ⟨#[]⟩, .slice none 0 0, .int .i64 0, .int .i64 0, .int .i64 0, .int .i64 0, .int .i64 0, .int .i64 0, .int .i64 0, .int .i64 0, .bool false, .bool false, .bool false, .bool false, .bool false, .slice none 0 0, .int .i64 0], .int .i64 1]) ?_ rfl ⟨rfl, HF.out⟩
  rw [results_cell_tmp Try.results16]
  show ((asAddr (.pointer (some ⟨w.heap.size + 2, 0, none⟩))).run Try.prog w7).andThen _ = _
  rw [show (asAddr (.pointer (some ⟨w.heap.size + 2, 0, none⟩))).run Try.prog w7 = .ok ⟨w.heap.size + 2, 0, none⟩ w7 by simp [asAddr]]
  show ((loadVar 38 ⟨w.heap.size + 2, 0, none⟩).run Try.prog w7).andThen _ = _
  rw [hld]
  rfl
set_option maxRecDepth 100000 in
set_option maxHeartbeats 4000000 in
theorem cRefNewBad (hv : (Fil.headP src num cls name n).validB = false) : Calls Try.prog 16 #[.agg #[.int .i64 src, .int .i64 num], .int .i64 cls, .string name, .slice da n dc, .agg #[.int .i64 chunk, .int .i64 timeout, .int .i64 retries]] w fun e w' => e = .returned (.tuple #[.agg #[.int .i64 0, .int .i64 0, .int .i64 0, .string ⟨#[]⟩, .slice none 0 0, .int .i64 0, .int .i64 0, .int .i64 0, .int .i64 0, .int .i64 0, .int .i64 0, .int .i64 0, .int .i64 0, .bool false, .bool false, .bool false, .bool false, .bool false, .slice none 0 0, .int .i64 0], .int .i64 1]) ∧ Below w.heap.size w w' := by
  have HRH : Hid (∀ y, Calls Try.prog 57 #[.agg #[.int .i64 1, .int .i64 src, .int .i64 num, .int .i64 cls, .string name, .int .i64 (n : Int), .int .i64 0, .slice none 0 0, .int .u32 0, .int .i64 0, .slice none 0 0]] y fun e w' => e = .returned (.bool false) ∧ Below y.heap.size y w') := hid fun y => by have h := cRefHead y src num cls name n hs; rw [hv] at h; exact h
  clear hv
  have e1 : (w.alloc (.cells #[.int .i64 src, .int .i64 num] 23)).heap.size = w.heap.size + 1 := by show (w.heap.push _).size = _; simp
  have e2 : ((w.alloc (.cells #[.int .i64 src, .int .i64 num] 23)).alloc (.cells #[.int .i64 chunk, .int .i64 timeout, .int .i64 retries] 26)).heap.size = w.heap.size + 2 := by show ((w.alloc (.cells #[.int .i64 src, .int .i64 num] 23)).heap.push _).size = _; rw [Array.size_push, e1]
  have h1 := (Sts.nil w).alloc stab0 (.cells #[.int .i64 src, .int .i64 num] 23)
  have h2 := h1.alloc (stabC (blkP_stable _ _) stab0) (.cells #[.int .i64 chunk, .int .i64 timeout, .int .i64 retries] 26)
  have h3 := h2.alloc (stabC (blkP_stable _ _) (stabC (blkP_stable _ _) stab0)) (.cells #[.int .i64 0, .int .i64 0, .int .i64 0, .string ⟨#[]⟩, .slice none 0 0, .int .i64 0, .int .i64 0, .int .i64 0, .int .i64 0, .int .i64 0, .int .i64 0, .int .i64 0, .int .i64 0, .bool false, .bool false, .bool false, .bool false, .bool false, .slice none 0 0, .int .i64 0] 38)
  rw [e1, e2] at h3
  have H4 : Hid (Sts w [blkP (w.heap.size + 2) (.cells #[.int .i64 0, .int .i64 0, .int .i64 0, .string ⟨#[]⟩, .slice none 0 0, .int .i64 0, .int .i64 0, .int .i64 0, .int .i64 0, .int .i64 0, .int .i64 0, .int .i64 0, .int .i64 0, .bool false, .bool false, .bool false, .bool false, .bool false, .slice none 0 0, .int .i64 0] 38 (0, 0)), blkP (w.heap.size + 1) (.cells #[.int .i64 chunk, .int .i64 timeout, .int .i64 retries] 26 (0, 0)), blkP w.heap.size (.cells #[.int .i64 src, .int .i64 num] 23 (0, 0))] ((((w.alloc (.cells #[.int .i64 src, .int .i64 num] 23)).alloc (.cells #[.int .i64 chunk, .int .i64 timeout, .int .i64 retries] 26)).alloc (.cells #[.int .i64 0, .int .i64 0, .int .i64 0, .string ⟨#[]⟩, .slice none 0 0, .int .i64 0, .int .i64 0, .int .i64 0, .int .i64 0, .int .i64 0, .int .i64 0, .int .i64 0, .int .i64 0, .bool false, .bool false, .bool false, .bool false, .bool false, .slice none 0 0, .int .i64 0] 38)).alloc (.cells #[.int .i64 1, .int .i64 src, .int .i64 num, .int .i64 cls, .string name, .int .i64 (n : Int), .int .i64 0, .slice none 0 0, .int .u32 0, .int .i64 0, .slice none 0 0] 45))) := hid (Sts.box (stabC (blkP_stable _ _) (stabC (blkP_stable _ _) (stabC (blkP_stable _ _) stab0))) h3 _)
  clear h1 h2 h3 e1 e2
  go_enter Try.func16, Try.ntmps16
  go_wp2_with (first | (go_at_call 57; refine (HRH.out _).mono ?_; rintro e w5 ⟨rfl, hb⟩; have H5 := hid (H4.out.quiet (stabC (blkP_stable _ _) (stabC (blkP_stable _ _) (stabC (blkP_stable _ _) stab0))) hb); clear hb H4; have c0 := (Sts.boxCell H5.out.tail 0 _ rfl).1; have c1 := (Sts.boxCell H5.out.tail 1 _ rfl).1; have c2 := (Sts.boxCell H5.out.tail 2 _ rfl).1; have d0 := (Sts.boxCell H5.out.tail.tail 0 _ rfl).1; have d1 := (Sts.boxCell H5.out.tail.tail 1 _ rfl).1) | (refine wpList_store_agg H5.out (stabC (blkP_stable _ _) (stabC (blkP_stable _ _) stab0)) rfl (.tmp 10) (.tmp 27) 38 rfl #[.int .i64 0, .int .i64 0, .int .i64 0, .string ⟨#[]⟩, .slice none 0 0, .int .i64 0, .int .i64 0, .int .i64 0, .int .i64 0, .int .i64 0, .int .i64 0, .int .i64 0, .int .i64 0, .bool false, .bool false, .bool false, .bool false, .bool false, .slice none 0 0, .int .i64 0] rfl rfl size20 rfl (fun v hv => List.all_eq_true.1 (show (#[.int .i64 0, .int .i64 0, .int .i64 0, .string ⟨#[]⟩, .slice none 0 0, .int .i64 0, .int .i64 0, .int .i64 0, .int .i64 0, .int .i64 0, .int .i64 0, .int .i64 0, .int .i64 0, .bool false, .bool false, .bool false, .bool false, .bool false, .slice none 0 0, .int .i64 0].toList).all (fun v => v.oneCell') = true from rfl) v hv) (by kernel_rfl) ?_; intro w7 hZ; have HZ := hid hZ; clear hZ H5))
  have hgb : w7.heap[w.heap.size + 2]? = some (.cells #[.int .i64 0, .int .i64 0, .int .i64 0, .string ⟨#[]⟩, .slice none 0 0, .int .i64 0, .int .i64 0, .int .i64 0, .int .i64 0, .int .i64 0, .int .i64 0, .int .i64 0, .int .i64 0, .bool false, .bool false, .bool false, .bool false, .bool false, .slice none 0 0, .int .i64 0] 38 (0, 0)) := by obtain ⟨F, hF⟩ := HZ.out.head; exact hF.1
  have hld := run_loadVar_row (P := Try.prog) w7 (w.heap.size + 2) 38 38 #[.int .i64 0, .int .i64 0, .int .i64 0, .string ⟨#[]⟩, .slice none 0 0, .int .i64 0, .int .i64 0, .int .i64 0, .int .i64 0, .int .i64 0, .int .i64 0, .int .i64 0, .int .i64 0, .bool false, .bool false, .bool false, .bool false, .bool false, .slice none 0 0, .int .i64 0] (0, 0) _ hgb Try.underlying38 rfl (by kernel_rfl)
  have HF := hid HZ.out.below
  clear HZ hgb
  refine bodyPost_ret (v := .tuple #[.agg #[.int .i64 0, .int .i64 0, .int .i64 0, .string ⟨#[]⟩, .slice none 0 0, .int .i64 0, .int .i64 0, .int .i64 0, .int .i64 0, .int .i64 0, .int .i64 0, .int .i64 0, .int .i64 0, .bool false, .bool false, .bool false, .bool false, .bool false, .slice none 0 0, .int .i64 0], .int .i64 1]) ?_ rfl ⟨rfl, HF.out⟩
  rw [results_cell_tmp Try.results16]
  show ((asAddr (.pointer (some ⟨w.heap.size + 2, 0, none⟩))).run Try.prog w7).andThen _ = _
  rw [show (asAddr (.pointer (some ⟨w.heap.size + 2, 0, none⟩))).run Try.prog w7 = .ok ⟨w.heap.size + 2, 0, none⟩ w7 by simp [asAddr]]
  show ((loadVar 38 ⟨w.heap.size + 2, 0, none⟩).run Try.prog w7).andThen _ = _
  rw [hld]
  rfl
end
end Go.Proofs.Ytfjadhkhmhnccaa
