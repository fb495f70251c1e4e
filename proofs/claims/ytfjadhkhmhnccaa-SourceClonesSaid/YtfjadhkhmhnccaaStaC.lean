/- The store of a struct of many cells in one step. The specification's configuration, New and State; SourceStarts. SourceStarts: every input. -/
import Derived.Test.YtfjadhkhmhnccaaSrcSml
import Derived.Laws.IdiomCopy
import Derived.Test.YtfjadhkhmhnccaaStaA
import Derived.Laws.ResultCell
import Derived.Test.YtfjadhkhmhnccaaSrcOrdA
import Derived.Test.YtfjadhkhmhnccaaSrcLivB
set_option linter.unusedVariables false
set_option linter.unusedSimpArgs false
namespace Go.Proofs.Ytfjadhkhmhnccaa
open Go.RowKit Go.Proofs.Num
theorem setAll_eq (b : Nat) : ∀ (vs : List Value) (k : Nat) (w : World), setAll b k vs w = w.setCells b k vs
  | [], _, _ => rfl
  | v :: vs, k, w => setAll_eq b vs (k + 1) _
theorem wpList_store_agg {ops : Array Oper} {rest : List Oper} {o : Oper} {a : Act} {Q : Exit → Act → World → Prop} {W w : World} {l : List HProp} {b : Nat} {c : Array Value} {t0 : TypeId}
    (hS : Sts W (blkP b (.cells c t0 (0, 0)) :: l) w) (hl : ∀ B ∈ l, Stable B) (hgd : o.guard = none) (p v : Operand) (t : TypeId) (ho : o.op = .store t p v) (vs : Array Value)
    (hp : a.eval p = .pointer (some ⟨b, 0, none⟩)) (hv : a.eval v = .agg vs) (hz : ∀ w, (Go.sizeOf t).run Try.prog w = .ok vs.size w) (hc : c.size = vs.size) (h1 : ∀ v ∈ vs.toList, v.oneCell' = true) (hput : putAll 0 vs.toList c = vs)
    (h : ∀ w', Sts W (blkP b (.cells vs t0 (0, 0)) :: l) w' → wpList Try.prog ops Q rest (a.put o.dst undef) w') : wpList Try.prog ops Q (o :: rest) a w := by
  refine wpList_plain hgd fun K hK => ?_
  have hb : w.heap[b]? = some (.cells c t0 (0, 0)) := by obtain ⟨F, hF⟩ := hS.head; exact hF.1
  have hst := run_storeCells_cells (P := Try.prog) b 0 vs.toList 0 w (fun j hj => by
      have hj2 : j < c.size := by rw [hc]; simpa using hj
      have h3 := cell_blk hb (Array.getElem?_eq_getElem hj2)
      simp only [Nat.zero_add]
      rw [h3]; rfl) (fun j hj => free_blk hb) h1
  have hf := Sts.storeAll hl vs.toList 0 _ _ hS
  rw [hput, setAll_eq] at hf
  unfold Oper.wp execOp
  simp only [ho, hp, hv]
  simp [go_sem, Instr.storeAt, storeVar, hz, Value.cells, hst]
  exact hK _ _ (h _ hf)
end Go.Proofs.Ytfjadhkhmhnccaa
namespace Go.Proofs.Ytfjadhkhmhnccaa
open Go.RowKit Go.Proofs.Num Go.ChangeShapes
def cfgB (chunk timeout retries : Int) : Bool := Fil.withinB chunk 1 512 && Fil.withinB timeout 1 1048576 && Fil.withinB retries 0 255
set_option maxRecDepth 100000 in
theorem cConfig (w : World) (chunk timeout retries : Int) : Calls Try.prog 58 #[.agg #[.int .i64 chunk, .int .i64 timeout, .int .i64 retries]] w fun e w' => e = .returned (.bool (cfgB chunk timeout retries)) ∧ Below w.heap.size w w' := by
  have HB := hid ((Below.refl w.heap.size w).alloc (Nat.le_refl _) (.cells #[.int .i64 chunk, .int .i64 timeout, .int .i64 retries] 26))
  cases hc : cfgB chunk timeout retries with
  | true =>
    have h : decide (chunk ≥ 1) = true ∧ decide (chunk ≤ 512) = true ∧ decide (timeout ≥ 1) = true ∧ decide (timeout ≤ 1048576) = true ∧ decide (retries ≥ 0) = true ∧ decide (retries ≤ 255) = true := by
      unfold cfgB Fil.withinB at hc
      simp only [Bool.and_eq_true, decide_eq_true_eq] at hc ⊢
      omega
    clear hc
    obtain ⟨h0, h1, h2, h3, h4, h5⟩ := h
    go_enter Try.func58, Try.ntmps58
    go_wp2_with fail
    go_ret
    exact ⟨rfl, HB.out⟩
  | false =>
    have h : (decide (chunk ≥ 1) = false) ∨ (decide (chunk ≥ 1) = true ∧ decide (chunk ≤ 512) = false) ∨ (decide (chunk ≥ 1) = true ∧ decide (chunk ≤ 512) = true ∧ decide (timeout ≥ 1) = false) ∨ (decide (chunk ≥ 1) = true ∧ decide (chunk ≤ 512) = true ∧ decide (timeout ≥ 1) = true ∧ decide (timeout ≤ 1048576) = false) ∨ (decide (chunk ≥ 1) = true ∧ decide (chunk ≤ 512) = true ∧ decide (timeout ≥ 1) = true ∧ decide (timeout ≤ 1048576) = true ∧ decide (retries ≥ 0) = false) ∨ (decide (chunk ≥ 1) = true ∧ decide (chunk ≤ 512) = true ∧ decide (timeout ≥ 1) = true ∧ decide (timeout ≤ 1048576) = true ∧ decide (retries ≥ 0) = true ∧ decide (retries ≤ 255) = false) := by
      unfold cfgB Fil.withinB at hc
      simp only [Bool.and_eq_false_iff, decide_eq_true_eq, decide_eq_false_iff_not] at hc ⊢
      omega
    clear hc
    rcases h with h0 | ⟨h0, h1⟩ | ⟨h0, h1, h2⟩ | ⟨h0, h1, h2, h3⟩ | ⟨h0, h1, h2, h3, h4⟩ | ⟨h0, h1, h2, h3, h4, h5⟩
    all_goals
      go_enter Try.func58, Try.ntmps58
      go_wp2_with fail
      go_ret
      exact ⟨rfl, HB.out⟩
theorem newB_eq (src num cls : Int) (name : ByteArray) (n : Nat) (chunk timeout retries : Int) : Fil.newB src num cls name n chunk timeout retries = ((Fil.headP src num cls name n).validB && cfgB chunk timeout retries) := by
  unfold Fil.newB cfgB
  simp only [Bool.and_assoc]
set_option maxRecDepth 100000 in
theorem size20 : ∀ w, (Go.sizeOf 38).run Try.prog w = .ok 20 w := fun w => by first | rfl | simp [go_sem] | kernel_rfl
section
variable (w : World) (src num cls chunk timeout retries : Int) (name : ByteArray) (da : Option Addr) (n dc : Nat) (hs : name.size ≤ 1000000)
include hs
set_option maxRecDepth 100000 in
set_option maxHeartbeats 4000000 in
theorem cRefNewOk (hv : (Fil.headP src num cls name n).validB = true) (hc : cfgB chunk timeout retries = true) : Calls Try.prog 16 #[.agg #[.int .i64 src, .int .i64 num], .int .i64 cls, .string name, .slice da n dc, .agg #[.int .i64 chunk, .int .i64 timeout, .int .i64 retries]] w fun e w' => e = .returned (.tuple #[.agg #[.int .i64 src, .int .i64 num, .int .i64 cls, .string name, .slice da n dc, .int .i64 chunk, .int .i64 timeout, .int .i64 retries, .int .i64 1, .int .i64 0, .int .i64 0, .int .i64 0, .int .i64 0, .bool false, .bool false, .bool false, .bool false, .bool false, .slice none 0 0, .int .i64 0], .int .i64 0]) ∧ Below w.heap.size w w' := by
  have HRH : Hid (∀ y, Calls Try.prog 57 #[.agg #[.int .i64 1, .int .i64 src, .int .i64 num, .int .i64 cls, .string name, .int .i64 (n : Int), .int .i64 0, .slice none 0 0, .int .u32 0, .int .i64 0, .slice none 0 0]] y fun e w' => e = .returned (.bool true) ∧ Below y.heap.size y w') := hid fun y => by have h := cRefHead y src num cls name n hs; rw [hv] at h; exact h
  have HCF : Hid (∀ y, Calls Try.prog 58 #[.agg #[.int .i64 chunk, .int .i64 timeout, .int .i64 retries]] y fun e w' => e = .returned (.bool true) ∧ Below y.heap.size y w') := hid fun y => by have h := cConfig y chunk timeout retries; rw [hc] at h; exact h
  clear hc
  clear hv
  have e1 : (w.alloc (.cells #[.int .i64 src, .int .i64 num] 23)).heap.size = w.heap.size + 1 := by show (w.heap.push _).size = _; simp
  have e2 : ((w.alloc (.cells #[.int .i64 src, .int .i64 num] 23)).alloc (.cells #[.int .i64 chunk, .int .i64 timeout, .int .i64 retries] 26)).heap.size = w.heap.size + 2 := by show ((w.alloc (.cells #[.int .i64 src, .int .i64 num] 23)).heap.push _).size = _; rw [Array.size_push, e1]
  have h1 := (Sts.nil w).alloc stab0 (.cells #[.int .i64 src, .int .i64 num] 23)
  have h2 := h1.alloc (stabC (blkP_stable _ _) stab0) (.cells #[.int .i64 chunk, .int .i64 timeout, .int .i64 retries] 26)
  have h3 := h2.alloc (stabC (blkP_stable _ _) (stabC (blkP_stable _ _) stab0)) (.cells #[.int .i64 0, .int .i64 0, .int .i64 0, .string ⟨#[]⟩, .slice none 0 0, .int .i64 0, .int .i64 0, .int .i64 0, .int .i64 0, .int .i64 0, .int .i64 0, .int .i64 0, .int .i64 0, .bool false, .bool false, .bool false, .bool false, .bool false, .slice none 0 0, .int .i64 0] 38)
  rw [e1, e2] at h3
  have H4 : Hid (Sts w [blkP (w.heap.size + 2) (.cells #[.int .i64 0, .int .i64 0, .int .i64 0, .string ⟨#[]⟩, .slice none 0 0, .int .i64 0, .int .i64 0, .int .i64 0, .int .i64 0, .int .i64 0, .int .i64 0, .int .i64 0, .int .i64 0, .bool false, .bool false, .bool false, .bool false, .bool false, .slice none 0 0, .int .i64 0] 38 (0, 0)), blkP (w.heap.size + 1) (.cells #[.int .i64 chunk, .int .i64 timeout, .int .i64 retries] 26 (0, 0)), blkP w.heap.size (.cells #[.int .i64 src, .int .i64 num] 23 (0, 0))] ((((w.alloc (.cells #[.int .i64 src, .int .i64 num] 23)).alloc (.cells #[.int .i64 chunk, .int .i64 timeout, .int .i64 retries] 26)).alloc (.cells #[.int .i64 0, .int .i64 0, .int .i64 0, .string ⟨#[]⟩, .slice none 0 0, .int .i64 0, .int .i64 0, .int .i64 0, .int .i64 0, .int .i64 0, .int .i64 0, .int .i64 0, .int .i64 0, .bool false, .bool false, .bool false, .bool false, .bool false, .slice none 0 0, .int .i64 0] 38)).alloc (.cells #[.int .i64 1, .int .i64 src, .int .i64 num, .int .i64 cls, .string name, .int .i64 (n : Int), .int .i64 0, .slice none 0 0, .int .u32 0, .int .i64 0, .slice none 0 0] 45))) := hid (Sts.box (stabC (blkP_stable _ _) (stabC (blkP_stable _ _) (stabC (blkP_stable _ _) stab0))) h3 _)
  clear h1 h2 h3 e1 e2
  go_enter Try.func16, Try.ntmps16
  go_wp2_with (first | (go_at_call 57; refine (HRH.out _).mono ?_; rintro e w5 ⟨rfl, hb⟩; have H5 := hid (H4.out.quiet (stabC (blkP_stable _ _) (stabC (blkP_stable _ _) (stabC (blkP_stable _ _) stab0))) hb); clear hb H4; have c0 := (Sts.boxCell H5.out.tail 0 _ rfl).1; have c1 := (Sts.boxCell H5.out.tail 1 _ rfl).1; have c2 := (Sts.boxCell H5.out.tail 2 _ rfl).1; have d0 := (Sts.boxCell H5.out.tail.tail 0 _ rfl).1; have d1 := (Sts.boxCell H5.out.tail.tail 1 _ rfl).1) | (go_at_call 58; refine (HCF.out _).mono ?_; rintro e w6 ⟨rfl, hb⟩; have H6 := hid (H5.out.quiet (stabC (blkP_stable _ _) (stabC (blkP_stable _ _) (stabC (blkP_stable _ _) stab0))) hb); clear hb H5 c0 c1 c2 d0 d1; have c0 := (Sts.boxCell H6.out.tail 0 _ rfl).1; have c1 := (Sts.boxCell H6.out.tail 1 _ rfl).1; have c2 := (Sts.boxCell H6.out.tail 2 _ rfl).1; have d0 := (Sts.boxCell H6.out.tail.tail 0 _ rfl).1; have d1 := (Sts.boxCell H6.out.tail.tail 1 _ rfl).1) | (refine wpList_store_agg H6.out (stabC (blkP_stable _ _) (stabC (blkP_stable _ _) stab0)) rfl (.tmp 10) (.tmp 33) 38 rfl #[.int .i64 src, .int .i64 num, .int .i64 cls, .string name, .slice da n dc, .int .i64 chunk, .int .i64 timeout, .int .i64 retries, .int .i64 1, .int .i64 0, .int .i64 0, .int .i64 0, .int .i64 0, .bool false, .bool false, .bool false, .bool false, .bool false, .slice none 0 0, .int .i64 0] rfl rfl size20 rfl (fun v hv => List.all_eq_true.1 (show (#[.int .i64 src, .int .i64 num, .int .i64 cls, .string name, .slice da n dc, .int .i64 chunk, .int .i64 timeout, .int .i64 retries, .int .i64 1, .int .i64 0, .int .i64 0, .int .i64 0, .int .i64 0, .bool false, .bool false, .bool false, .bool false, .bool false, .slice none 0 0, .int .i64 0].toList).all (fun v => v.oneCell') = true from rfl) v hv) (by kernel_rfl) ?_; intro w7 hZ; have HZ := hid hZ; clear hZ H6))
  have hgb : w7.heap[w.heap.size + 2]? = some (.cells #[.int .i64 src, .int .i64 num, .int .i64 cls, .string name, .slice da n dc, .int .i64 chunk, .int .i64 timeout, .int .i64 retries, .int .i64 1, .int .i64 0, .int .i64 0, .int .i64 0, .int .i64 0, .bool false, .bool false, .bool false, .bool false, .bool false, .slice none 0 0, .int .i64 0] 38 (0, 0)) := by obtain ⟨F, hF⟩ := HZ.out.head; exact hF.1
  have hld := run_loadVar_row (P := Try.prog) w7 (w.heap.size + 2) 38 38 #[.int .i64 src, .int .i64 num, .int .i64 cls, .string name, .slice da n dc, .int .i64 chunk, .int .i64 timeout, .int .i64 retries, .int .i64 1, .int .i64 0, .int .i64 0, .int .i64 0, .int .i64 0, .bool false, .bool false, .bool false, .bool false, .bool false, .slice none 0 0, .int .i64 0] (0, 0) _ hgb Try.underlying38 rfl (by kernel_rfl)
  have HF := hid HZ.out.below
  clear HZ hgb
  refine bodyPost_ret (v := .tuple #[.agg #[.int .i64 src, .int .i64 num, .int .i64 cls, .string name, .slice da n dc, .int .i64 chunk, .int .i64 timeout, .int .i64 retries, .int .i64 1, .int .i64 0, .int .i64 0, .int .i64 0, .int .i64 0, .bool false, .bool false, .bool false, .bool false, .bool false, .slice none 0 0, .int .i64 0], .int .i64 0]) ?_ rfl ⟨rfl, HF.out⟩
  rw [results_cell_tmp Try.results16]
  show ((asAddr (.pointer (some ⟨w.heap.size + 2, 0, none⟩))).run Try.prog w7).andThen _ = _
  rw [show (asAddr (.pointer (some ⟨w.heap.size + 2, 0, none⟩))).run Try.prog w7 = .ok ⟨w.heap.size + 2, 0, none⟩ w7 by simp [asAddr]]
  show ((loadVar 38 ⟨w.heap.size + 2, 0, none⟩).run Try.prog w7).andThen _ = _
  rw [hld]
  rfl
set_option maxRecDepth 100000 in
set_option maxHeartbeats 4000000 in
theorem cRefNewCfg (hv : (Fil.headP src num cls name n).validB = true) (hc : cfgB chunk timeout retries = false) : Calls Try.prog 16 #[.agg #[.int .i64 src, .int .i64 num], .int .i64 cls, .string name, .slice da n dc, .agg #[.int .i64 chunk, .int .i64 timeout, .int .i64 retries]] w fun e w' => e = .returned (.tuple #[.agg #[.int .i64 0, .int .i64 0, .int .i64 0, .string ⟨#[]⟩, .slice none 0 0, .int .i64 0, .int .i64 0, .int .i64 0, .int .i64 0, .int .i64 0, .int .i64 0, .int .i64 0, .int .i64 0, .bool false, .bool false, .bool false, .bool false, .bool false, .slice none 0 0, .int .i64 0], .int .i64 1]) ∧ Below w.heap.size w w' := by
  have HRH : Hid (∀ y, Calls Try.prog 57 #[.agg #[.int .i64 1, .int .i64 src, .int .i64 num, .int .i64 cls, .string name, .int .i64 (n : Int), .int .i64 0, .slice none 0 0, .int .u32 0, .int .i64 0, .slice none 0 0]] y fun e w' => e = .returned (.bool true) ∧ Below y.heap.size y w') := hid fun y => by have h := cRefHead y src num cls name n hs; rw [hv] at h; exact h
  have HCF : Hid (∀ y, Calls Try.prog 58 #[.agg #[.int .i64 chunk, .int .i64 timeout, .int .i64 retries]] y fun e w' => e = .returned (.bool false) ∧ Below y.heap.size y w') := hid fun y => by have h := cConfig y chunk timeout retries; rw [hc] at h; exact h
  clear hc
  clear hv
  have e1 : (w.alloc (.cells #[.int .i64 src, .int .i64 num] 23)).heap.size = w.heap.size + 1 := by show (w.heap.push _).size = _; simp
  have e2 : ((w.alloc (.cells #[.int .i64 src, .int .i64 num] 23)).alloc (.cells #[.int .i64 chunk, .int .i64 timeout, .int .i64 retries] 26)).heap.size = w.heap.size + 2 := by show ((w.alloc (.cells #[.int .i64 src, .int .i64 num] 23)).heap.push _).size = _; rw [Array.size_push, e1]
  have h1 := (Sts.nil w).alloc stab0 (.cells #[.int .i64 src, .int .i64 num] 23)
  have h2 := h1.alloc (stabC (blkP_stable _ _) stab0) (.cells #[.int .i64 chunk, .int .i64 timeout, .int .i64 retries] 26)
  have h3 := h2.alloc (stabC (blkP_stable _ _) (stabC (blkP_stable _ _) stab0)) (.cells #[.int .i64 0, .int .i64 0, .int .i64 0, .string ⟨#[]⟩, .slice none 0 0, .int .i64 0, .int .i64 0, .int .i64 0, .int .i64 0, .int .i64 0, .int .i64 0, .int .i64 0, .int .i64 0, .bool false, .bool false, .bool false, .bool false, .bool false, .slice none 0 0, .int .i64 0] 38)
  rw [e1, e2] at h3
  have H4 : Hid (Sts w [blkP (w.heap.size + 2) (.cells #[.int .i64 0, .int .i64 0, .int .i64 0, .string ⟨#[]⟩, .slice none 0 0, .int .i64 0, .int .i64 0, .int .i64 0, .int .i64 0, .int .i64 0, .int .i64 0, .int .i64 0, .int .i64 0, .bool false, .bool false, .bool false, .bool false, .bool false, .slice none 0 0, .int .i64 0] 38 (0, 0)), blkP (w.heap.size + 1) (.cells #[.int .i64 chunk, .int .i64 timeout, .int .i64 retries] 26 (0, 0)), blkP w.heap.size (.cells #[.int .i64 src, .int .i64 num] 23 (0, 0))] ((((w.alloc (.cells #[.int .i64 src, .int .i64 num] 23)).alloc (.cells #[.int .i64 chunk, .int .i64 timeout, .int .i64 retries] 26)).alloc (.cells #[.int .i64 0, .int .i64 0, .int .i64 0, .string ⟨#[]⟩, .slice none 0 0, .int .i64 0, .int .i64 0, .int .i64 0, .int .i64 0, .int .i64 0, .int .i64 0, .int .i64 0, .int .i64 0, .bool false, .bool false, .bool false, .bool false, .bool false, .slice none 0 0, .int .i64 0] 38)).alloc (.cells #[.int .i64 1, .int .i64 src, .int .i64 num, .int .i64 cls, .string name, .int .i64 (n : Int), .int .i64 0, .slice none 0 0, .int .u32 0, .int .i64 0, .slice none 0 0] 45))) := hid (Sts.box (stabC (blkP_stable _ _) (stabC (blkP_stable _ _) (stabC (blkP_stable _ _) stab0))) h3 _)
  clear h1 h2 h3 e1 e2
  go_enter Try.func16, Try.ntmps16
  go_wp2_with (first | (go_at_call 57; refine (HRH.out _).mono ?_; rintro e w5 ⟨rfl, hb⟩; have H5 := hid (H4.out.quiet (stabC (blkP_stable _ _) (stabC (blkP_stable _ _) (stabC (blkP_stable _ _) stab0))) hb); clear hb H4; have c0 := (Sts.boxCell H5.out.tail 0 _ rfl).1; have c1 := (Sts.boxCell H5.out.tail 1 _ rfl).1; have c2 := (Sts.boxCell H5.out.tail 2 _ rfl).1; have d0 := (Sts.boxCell H5.out.tail.tail 0 _ rfl).1; have d1 := (Sts.boxCell H5.out.tail.tail 1 _ rfl).1) | (go_at_call 58; refine (HCF.out _).mono ?_; rintro e w6 ⟨rfl, hb⟩; have H6 := hid (H5.out.quiet (stabC (blkP_stable _ _) (stabC (blkP_stable _ _) (stabC (blkP_stable _ _) stab0))) hb); clear hb H5 c0 c1 c2 d0 d1; have c0 := (Sts.boxCell H6.out.tail 0 _ rfl).1; have c1 := (Sts.boxCell H6.out.tail 1 _ rfl).1; have c2 := (Sts.boxCell H6.out.tail 2 _ rfl).1; have d0 := (Sts.boxCell H6.out.tail.tail 0 _ rfl).1; have d1 := (Sts.boxCell H6.out.tail.tail 1 _ rfl).1) | (refine wpList_store_agg H6.out (stabC (blkP_stable _ _) (stabC (blkP_stable _ _) stab0)) rfl (.tmp 10) (.tmp 27) 38 rfl #[.int .i64 0, .int .i64 0, .int .i64 0, .string ⟨#[]⟩, .slice none 0 0, .int .i64 0, .int .i64 0, .int .i64 0, .int .i64 0, .int .i64 0, .int .i64 0, .int .i64 0, .int .i64 0, .bool false, .bool false, .bool false, .bool false, .bool false, .slice none 0 0, .int .i64 0] rfl rfl size20 rfl (fun v hv => List.all_eq_true.1 (show (#[.int .i64 0, .int .i64 0, .int .i64 0, .string ⟨#[]⟩, .slice none 0 0, .int .i64 0, .int .i64 0, .int .i64 0, .int .i64 0, .int .i64 0, .int .i64 0, .int .i64 0, .int .i64 0, .bool false, .bool false, .bool false, .bool false, .bool false, .slice none 0 0, .int .i64 0].toList).all (fun v => v.oneCell') = true from rfl) v hv) (by kernel_rfl) ?_; intro w7 hZ; have HZ := hid hZ; clear hZ H6))
  have hgb : w7.heap[w.heap.size + 2]? = some (.cells #[.int .i64 0, .int .i64 0, .int .i64 0, .string ⟨#[]⟩, .slice none 0 0, .int .i64 0, .int .i64 0, .int .i64 0, .int .i64 0, .int .i64 0, .int .i64 0, .int .i64 0, .int .i64 0, .bool false, .bool false, .bool false, .bool false, .bool false, .slice none 0 0, .int .i64 0] 38 (0, 0)) := by obtain ⟨F, hF⟩ := HZ.out.head; exact hF.1
  have hld := run_loadVar_row (P := Try.prog) w7 (w.heap.size + 2) 38 38 #[.int .i64 0, .int .i64 0, .int .i64 0, .string ⟨#[]⟩, .slice none 0 0, .int .i64 0, .int .i64 0, .int .i64 0, .int .i64 0, .int .i64 0, .int .i64 0, .int .i64 0, .int .i64 0, .bool false, .bool false, .bool false, .bool false, .bool false, .slice none 0 0, .int .i64 0] (0, 0) _ hgb Try.underlying38 rfl (by kernel_rfl)
  have HF := hid HZ.out.below
  clear HZ hgb
  refine bodyPost_ret (v := .tuple #[.agg #[.int .i64 0, .int .i64 0, .int .i64 0, .string ⟨#[]⟩, .slice none 0 0, .int .i64 0, .int .i64 0, .int .i64 0, .int .i64 0, .int .i64 0, .int .i64 0, .int .i64 0, .int .i64 0, .bool false, .bool false, .bool false, .bool false, .bool false, .slice none 0 0, .int .i64 0], .int .i64 1]) ?_ rfl ⟨rfl, HF.out⟩
  rw [results_cell_tmp Try.results16]
  show ((asAddr (.pointer (some ⟨w.heap.size + 2, 0, none⟩))).run Try.prog w7).andThen _ = _
  rw [show (asAddr (.pointer (some ⟨w.heap.size + 2, 0, none⟩))).run Try.prog w7 = .ok ⟨w.heap.size + 2, 0, none⟩ w7 by simp [asAddr]]
  show ((loadVar 38 ⟨w.heap.size + 2, 0, none⟩).run Try.prog w7).andThen _ = _
  rw [hld]
  rfl
set_option maxRecDepth 100000 in
set_option maxHeartbeats 4000000 in
theorem cRefNewBad (hv : (Fil.headP src num cls name n).validB = false) : Calls Try.prog 16 #[.agg #[.int .i64 src, .int .i64 num], .int .i64 cls, .string name, .slice da n dc, .agg #[.int .i64 chunk, .int .i64 timeout, .int .i64 retries]] w fun e w' => e = .returned (.tuple #[.agg #[.int .i64 0, .int .i64 0, .int .i64 0, .string ⟨#[]⟩, .slice none 0 0, .int .i64 0, .int .i64 0, .int .i64 0, .int .i64 0, .int .i64 0, .int .i64 0, .int .i64 0, .int .i64 0, .bool false, .bool false, .bool false, .bool false, .bool false, .slice none 0 0, .int .i64 0], .int .i64 1]) ∧ Below w.heap.size w w' := by
  have HRH : Hid (∀ y, Calls Try.prog 57 #[.agg #[.int .i64 1, .int .i64 src, .int .i64 num, .int .i64 cls, .string name, .int .i64 (n : Int), .int .i64 0, .slice none 0 0, .int .u32 0, .int .i64 0, .slice none 0 0]] y fun e w' => e = .returned (.bool false) ∧ Below y.heap.size y w') := hid fun y => by have h := cRefHead y src num cls name n hs; rw [hv] at h; exact h
  clear hv
  have e1 : (w.alloc (.cells #[.int .i64 src, .int .i64 num] 23)).heap.size = w.heap.size + 1 := by show (w.heap.push _).size = _; simp
  have e2 : ((w.alloc (.cells #[.int .i64 src, .int .i64 num] 23)).alloc (.cells #[.int .i64 chunk, .int .i64 timeout, .int .i64 retries] 26)).heap.size = w.heap.size + 2 := by show ((w.alloc (.cells #[.int .i64 src, .int .i64 num] 23)).heap.push _).size = _; rw [Array.size_push, e1]
  have h1 := (Sts.nil w).alloc stab0 (.cells #[.int .i64 src, .int .i64 num] 23)
  have h2 := h1.alloc (stabC (blkP_stable _ _) stab0) (.cells #[.int .i64 chunk, .int .i64 timeout, .int .i64 retries] 26)
  have h3 := h2.alloc (stabC (blkP_stable _ _) (stabC (blkP_stable _ _) stab0)) (.cells #[.int .i64 0, .int .i64 0, .int .i64 0, .string ⟨#[]⟩, .slice none 0 0, .int .i64 0, .int .i64 0, .int .i64 0, .int .i64 0, .int .i64 0, .int .i64 0, .int .i64 0, .int .i64 0, .bool false, .bool false, .bool false, .bool false, .bool false, .slice none 0 0, .int .i64 0] 38)
  rw [e1, e2] at h3
  have H4 : Hid (Sts w [blkP (w.heap.size + 2) (.cells #[.int .i64 0, .int .i64 0, .int .i64 0, .string ⟨#[]⟩, .slice none 0 0, .int .i64 0, .int .i64 0, .int .i64 0, .int .i64 0, .int .i64 0, .int .i64 0, .int .i64 0, .int .i64 0, .bool false, .bool false, .bool false, .bool false, .bool false, .slice none 0 0, .int .i64 0] 38 (0, 0)), blkP (w.heap.size + 1) (.cells #[.int .i64 chunk, .int .i64 timeout, .int .i64 retries] 26 (0, 0)), blkP w.heap.size (.cells #[.int .i64 src, .int .i64 num] 23 (0, 0))] ((((w.alloc (.cells #[.int .i64 src, .int .i64 num] 23)).alloc (.cells #[.int .i64 chunk, .int .i64 timeout, .int .i64 retries] 26)).alloc (.cells #[.int .i64 0, .int .i64 0, .int .i64 0, .string ⟨#[]⟩, .slice none 0 0, .int .i64 0, .int .i64 0, .int .i64 0, .int .i64 0, .int .i64 0, .int .i64 0, .int .i64 0, .int .i64 0, .bool false, .bool false, .bool false, .bool false, .bool false, .slice none 0 0, .int .i64 0] 38)).alloc (.cells #[.int .i64 1, .int .i64 src, .int .i64 num, .int .i64 cls, .string name, .int .i64 (n : Int), .int .i64 0, .slice none 0 0, .int .u32 0, .int .i64 0, .slice none 0 0] 45))) := hid (Sts.box (stabC (blkP_stable _ _) (stabC (blkP_stable _ _) (stabC (blkP_stable _ _) stab0))) h3 _)
  clear h1 h2 h3 e1 e2
  go_enter Try.func16, Try.ntmps16
  go_wp2_with (first | (go_at_call 57; refine (HRH.out _).mono ?_; rintro e w5 ⟨rfl, hb⟩; have H5 := hid (H4.out.quiet (stabC (blkP_stable _ _) (stabC (blkP_stable _ _) (stabC (blkP_stable _ _) stab0))) hb); clear hb H4; have c0 := (Sts.boxCell H5.out.tail 0 _ rfl).1; have c1 := (Sts.boxCell H5.out.tail 1 _ rfl).1; have c2 := (Sts.boxCell H5.out.tail 2 _ rfl).1; have d0 := (Sts.boxCell H5.out.tail.tail 0 _ rfl).1; have d1 := (Sts.boxCell H5.out.tail.tail 1 _ rfl).1) | (refine wpList_store_agg H5.out (stabC (blkP_stable _ _) (stabC (blkP_stable _ _) stab0)) rfl (.tmp 10) (.tmp 27) 38 rfl #[.int .i64 0, .int .i64 0, .int .i64 0, .string ⟨#[]⟩, .slice none 0 0, .int .i64 0, .int .i64 0, .int .i64 0, .int .i64 0, .int .i64 0, .int .i64 0, .int .i64 0, .int .i64 0, .bool false, .bool false, .bool false, .bool false, .bool false, .slice none 0 0, .int .i64 0] rfl rfl size20 rfl (fun v hv => List.all_eq_true.1 (show (#[.int .i64 0, .int .i64 0, .int .i64 0, .string ⟨#[]⟩, .slice none 0 0, .int .i64 0, .int .i64 0, .int .i64 0, .int .i64 0, .int .i64 0, .int .i64 0, .int .i64 0, .int .i64 0, .bool false, .bool false, .bool false, .bool false, .bool false, .slice none 0 0, .int .i64 0].toList).all (fun v => v.oneCell') = true from rfl) v hv) (by kernel_rfl) ?_; intro w7 hZ; have HZ := hid hZ; clear hZ H5))
  have hgb : w7.heap[w.heap.size + 2]? = some (.cells #[.int .i64 0, .int .i64 0, .int .i64 0, .string ⟨#[]⟩, .slice none 0 0, .int .i64 0, .int .i64 0, .int .i64 0, .int .i64 0, .int .i64 0, .int .i64 0, .int .i64 0, .int .i64 0, .bool false, .bool false, .bool false, .bool false, .bool false, .slice none 0 0, .int .i64 0] 38 (0, 0)) := by obtain ⟨F, hF⟩ := HZ.out.head; exact hF.1
  have hld := run_loadVar_row (P := Try.prog) w7 (w.heap.size + 2) 38 38 #[.int .i64 0, .int .i64 0, .int .i64 0, .string ⟨#[]⟩, .slice none 0 0, .int .i64 0, .int .i64 0, .int .i64 0, .int .i64 0, .int .i64 0, .int .i64 0, .int .i64 0, .int .i64 0, .bool false, .bool false, .bool false, .bool false, .bool false, .slice none 0 0, .int .i64 0] (0, 0) _ hgb Try.underlying38 rfl (by kernel_rfl)
  have HF := hid HZ.out.below
  clear HZ hgb
  refine bodyPost_ret (v := .tuple #[.agg #[.int .i64 0, .int .i64 0, .int .i64 0, .string ⟨#[]⟩, .slice none 0 0, .int .i64 0, .int .i64 0, .int .i64 0, .int .i64 0, .int .i64 0, .int .i64 0, .int .i64 0, .int .i64 0, .bool false, .bool false, .bool false, .bool false, .bool false, .slice none 0 0, .int .i64 0], .int .i64 1]) ?_ rfl ⟨rfl, HF.out⟩
  rw [results_cell_tmp Try.results16]
  show ((asAddr (.pointer (some ⟨w.heap.size + 2, 0, none⟩))).run Try.prog w7).andThen _ = _
  rw [show (asAddr (.pointer (some ⟨w.heap.size + 2, 0, none⟩))).run Try.prog w7 = .ok ⟨w.heap.size + 2, 0, none⟩ w7 by simp [asAddr]]
  show ((loadVar 38 ⟨w.heap.size + 2, 0, none⟩).run Try.prog w7).andThen _ = _
  rw [hld]
  rfl
end
end Go.Proofs.Ytfjadhkhmhnccaa
namespace Go.Proofs.Ytfjadhkhmhnccaa
open Go.RowKit Go.Proofs.Num Go.ChangeShapes
theorem cRefState0 (w : World) (q : Nat) (h8 : w.cell? ⟨q, 8, none⟩ = some (.int .i64 0)) : Calls Try.prog 18 #[.pointer (some ⟨q, 0, none⟩)] w fun e w' => e = .returned (.int .i64 0) ∧ w = w' := by
  go_enter Try.func18, Try.ntmps18
  go_wp2_with fail
  go_ret
  exact ⟨rfl, rfl⟩
theorem cRefState1 (w : World) (q : Nat) (h8 : w.cell? ⟨q, 8, none⟩ = some (.int .i64 1)) (h13 : w.cell? ⟨q, 13, none⟩ = some (.bool false)) : Calls Try.prog 18 #[.pointer (some ⟨q, 0, none⟩)] w fun e w' => e = .returned (.int .i64 1) ∧ w = w' := by
  go_enter Try.func18, Try.ntmps18
  go_wp2_with fail
  go_ret
  exact ⟨rfl, rfl⟩
set_option maxRecDepth 100000 in
set_option maxHeartbeats 4000000 in
theorem starts_big (w : World) (src num cls chunk timeout retries : Int) (name : ByteArray) (vd vl : Value) (data : List Nat) (S : List Fil.Stp) (hd : RdB w vd data) (hS : StpsAt w vl S) (hsm : Fil.smallB name.size data.length S = false) : Calls Try.prog 3 #[.agg #[.int .i64 src, .int .i64 num, .int .i64 cls, .string name, vd, .int .i64 chunk, .int .i64 timeout, .int .i64 retries, vl]] w fun e w' => e = .returned (.bool true) ∧ Below w.heap.size w w' := by
  obtain ⟨da, dc, hde⟩ := hd.1.eq
  rw [u8s_len] at hde
  subst hde
  have hbw := (Below.refl w.heap.size w).alloc (Nat.le_refl _) (.cells #[.int .i64 src, .int .i64 num, .int .i64 cls, .string name, .slice da data.length dc, .int .i64 chunk, .int .i64 timeout, .int .i64 retries, vl] 29)
  have hsmall := cSmall (w.alloc (.cells #[.int .i64 src, .int .i64 num, .int .i64 cls, .string name, .slice da data.length dc, .int .i64 chunk, .int .i64 timeout, .int .i64 retries, vl] 29)) src num cls chunk timeout retries name _ vl data S (hd.below hbw) (hS.below hbw)
  rw [hsm] at hsmall
  have HSM := hid hsmall
  have H0 := hid ((Sts.nil w).alloc stab0 (.cells #[.int .i64 src, .int .i64 num, .int .i64 cls, .string name, .slice da data.length dc, .int .i64 chunk, .int .i64 timeout, .int .i64 retries, vl] 29))
  have HD := hid hd
  clear hsmall hbw hd hS hsm
  have HB0 := hid H0.out.below
  go_enter Try.func3, Try.ntmps3
  go_wp2_with (first | (go_at_call 13; refine HSM.out.mono ?_; rintro e w1 ⟨rfl, hb1⟩; have HBL := hid (HB0.out.trans (hb1.mono HB0.out.size)); clear hb1) | (go_at_call 14; refine (cLives27 _).mono ?_; rintro e w9 ⟨rfl, hb9⟩; have H9 := hid (HBL.out.trans (hb9.mono HBL.out.size)); clear hb9))
  go_ret
  exact ⟨rfl, H9.out⟩
set_option maxRecDepth 100000 in
set_option maxHeartbeats 8000000 in
theorem starts_ok (w : World) (src num cls chunk timeout retries : Int) (name : ByteArray) (vd vl : Value) (data : List Nat) (S : List Fil.Stp) (hd : RdB w vd data) (hS : StpsAt w vl S) (hsm : Fil.smallB name.size data.length S = true) (hname : name.size ≤ 1000000) (hb : Fil.newB src num cls name data.length chunk timeout retries = true) (hn : data.length < 100000000) : Calls Try.prog 3 #[.agg #[.int .i64 src, .int .i64 num, .int .i64 cls, .string name, vd, .int .i64 chunk, .int .i64 timeout, .int .i64 retries, vl]] w fun e w' => e = .returned (.bool true) ∧ Below w.heap.size w w' := by
  obtain ⟨da, dc, hde⟩ := hd.1.eq
  rw [u8s_len] at hde
  subst hde
  have hbw := (Below.refl w.heap.size w).alloc (Nat.le_refl _) (.cells #[.int .i64 src, .int .i64 num, .int .i64 cls, .string name, .slice da data.length dc, .int .i64 chunk, .int .i64 timeout, .int .i64 retries, vl] 29)
  have hsmall := cSmall (w.alloc (.cells #[.int .i64 src, .int .i64 num, .int .i64 cls, .string name, .slice da data.length dc, .int .i64 chunk, .int .i64 timeout, .int .i64 retries, vl] 29)) src num cls chunk timeout retries name _ vl data S (hd.below hbw) (hS.below hbw)
  rw [hsm] at hsmall
  have HSM := hid hsmall
  have H0 := hid ((Sts.nil w).alloc stab0 (.cells #[.int .i64 src, .int .i64 num, .int .i64 cls, .string name, .slice da data.length dc, .int .i64 chunk, .int .i64 timeout, .int .i64 retries, vl] 29))
  have HD := hid hd
  clear hsmall hbw hd hS hsm
  have hv : (Fil.headP src num cls name data.length).validB = true ∧ cfgB chunk timeout retries = true := by rw [newB_eq] at hb; simpa using hb
  have HV := hid hv
  have HNB := hid hb
  clear hv hb
  go_enter Try.func3, Try.ntmps3
  go_wp2_with (first | (go_at_call 13; refine HSM.out.mono ?_; rintro e w1 ⟨rfl, hb1⟩; have H1 := hid (H0.out.quiet (stab1 (blkP_stable _ _)) hb1); clear hb1; have q0 := (Sts.boxCell H1.out 0 _ rfl).1; have q1 := (Sts.boxCell H1.out 1 _ rfl).1; have q2 := (Sts.boxCell H1.out 2 _ rfl).1; have q3 := (Sts.boxCell H1.out 3 _ rfl).1; have q4 := (Sts.boxCell H1.out 4 _ rfl).1; have q5 := (Sts.boxCell H1.out 5 _ rfl).1; have q6 := (Sts.boxCell H1.out 6 _ rfl).1; have q7 := (Sts.boxCell H1.out 7 _ rfl).1))
  clear HSM H0 q0 q1 q2 q3 q4 q5 q6 q7
  refine (cNewOk (stab1 (blkP_stable _ _)) src num cls name _ data chunk timeout retries H1.out (RdsB.arg HD.out) hname hn HNB.out).mono ?_
  rintro e w2 ⟨q1', rfl, h⟩
  have H2 := hid h
  clear h H1
  have q0 := (Sts.boxCell H2.out.swap 0 _ rfl).1
  have q1 := (Sts.boxCell H2.out.swap 1 _ rfl).1
  have q2 := (Sts.boxCell H2.out.swap 2 _ rfl).1
  have q3 := (Sts.boxCell H2.out.swap 3 _ rfl).1
  have q4 := (Sts.boxCell H2.out.swap 4 _ rfl).1
  have q5 := (Sts.boxCell H2.out.swap 5 _ rfl).1
  have q6 := (Sts.boxCell H2.out.swap 6 _ rfl).1
  have q7 := (Sts.boxCell H2.out.swap 7 _ rfl).1
  go_wp2_with fail
  clear q0 q1 q2 q3 q4 q5 q6 q7
  refine (cRefNewOk w2 src num cls chunk timeout retries name da data.length dc hname HV.out.1 HV.out.2).mono ?_
  rintro e w3 ⟨rfl, hb3⟩
  have HX0 := hid ((H2.out.quiet (stabC (srcP_stable _ _) (stab1 (blkP_stable _ _))) hb3).alloc (stabC (srcP_stable _ _) (stab1 (blkP_stable _ _))) (.cells #[.int .i64 0, .int .i64 0, .int .i64 0, .string ⟨#[]⟩, .slice none 0 0, .int .i64 0, .int .i64 0, .int .i64 0, .int .i64 0, .int .i64 0, .int .i64 0, .int .i64 0, .int .i64 0, .bool false, .bool false, .bool false, .bool false, .bool false, .slice none 0 0, .int .i64 0] 38))
  clear hb3 H2
  go_wp2_with (first | (refine wpList_store_agg HX0.out (stabC (srcP_stable _ _) (stab1 (blkP_stable _ _))) rfl (.tmp 5) (.tmp 37) 38 rfl #[.int .i64 src, .int .i64 num, .int .i64 cls, .string name, .slice da data.length dc, .int .i64 chunk, .int .i64 timeout, .int .i64 retries, .int .i64 1, .int .i64 0, .int .i64 0, .int .i64 0, .int .i64 0, .bool false, .bool false, .bool false, .bool false, .bool false, .slice none 0 0, .int .i64 0] rfl rfl size20 rfl (fun v hv => List.all_eq_true.1 (show (#[.int .i64 src, .int .i64 num, .int .i64 cls, .string name, .slice da data.length dc, .int .i64 chunk, .int .i64 timeout, .int .i64 retries, .int .i64 1, .int .i64 0, .int .i64 0, .int .i64 0, .int .i64 0, .bool false, .bool false, .bool false, .bool false, .bool false, .slice none 0 0, .int .i64 0].toList).all (fun v => v.oneCell') = true from rfl) v hv) (by kernel_rfl) ?_; intro w7 hZ; have HX := hid hZ; clear hZ HX0; have HRS := hid (cRefState1 _ _ (Sts.boxCell HX.out 8 _ rfl).1 (Sts.boxCell HX.out 13 _ rfl).1); have hst := cStateS q1' (newSrc src num cls name data chunk timeout retries) HX.out.swap; rw [show (newSrc src num cls name data chunk timeout retries).stateV = 1 by kernel_rfl] at hst; have HST := hid hst; have hcd := cCodeS q1' (newSrc src num cls name data chunk timeout retries) HX.out.swap; rw [show (newSrc src num cls name data chunk timeout retries).code = 0 by kernel_rfl] at hcd; have HCD := hid hcd; have HBL := hid HX.out.below; clear hst hcd HX) | (go_at_call 17; refine HST.out.mono ?_; rintro e w4 ⟨rfl, rfl⟩) | (go_at_call 18; refine HRS.out.mono ?_; rintro e w4 ⟨rfl, rfl⟩) | (go_at_call 19; refine HCD.out.mono ?_; rintro e w4 ⟨rfl, rfl⟩) | (go_at_call 14; refine (cLives27 _).mono ?_; rintro e w9 ⟨rfl, hb9⟩; have H9 := hid (HBL.out.trans (hb9.mono HBL.out.size)); clear hb9))
  go_ret
  exact ⟨rfl, H9.out⟩
set_option maxRecDepth 100000 in
set_option maxHeartbeats 8000000 in
theorem starts_bad (w : World) (src num cls chunk timeout retries : Int) (name : ByteArray) (vd vl : Value) (data : List Nat) (S : List Fil.Stp) (hd : RdB w vd data) (hS : StpsAt w vl S) (hsm : Fil.smallB name.size data.length S = true) (hname : name.size ≤ 1000000) (hb : Fil.newB src num cls name data.length chunk timeout retries = false) : Calls Try.prog 3 #[.agg #[.int .i64 src, .int .i64 num, .int .i64 cls, .string name, vd, .int .i64 chunk, .int .i64 timeout, .int .i64 retries, vl]] w fun e w' => e = .returned (.bool true) ∧ Below w.heap.size w w' := by
  obtain ⟨da, dc, hde⟩ := hd.1.eq
  rw [u8s_len] at hde
  subst hde
  have hbw := (Below.refl w.heap.size w).alloc (Nat.le_refl _) (.cells #[.int .i64 src, .int .i64 num, .int .i64 cls, .string name, .slice da data.length dc, .int .i64 chunk, .int .i64 timeout, .int .i64 retries, vl] 29)
  have hsmall := cSmall (w.alloc (.cells #[.int .i64 src, .int .i64 num, .int .i64 cls, .string name, .slice da data.length dc, .int .i64 chunk, .int .i64 timeout, .int .i64 retries, vl] 29)) src num cls chunk timeout retries name _ vl data S (hd.below hbw) (hS.below hbw)
  rw [hsm] at hsmall
  have HSM := hid hsmall
  have H0 := hid ((Sts.nil w).alloc stab0 (.cells #[.int .i64 src, .int .i64 num, .int .i64 cls, .string name, .slice da data.length dc, .int .i64 chunk, .int .i64 timeout, .int .i64 retries, vl] 29))
  have HD := hid hd
  clear hsmall hbw hd hS hsm
  have hrn : ∀ (y : World) (a : Option Addr) (c : Nat), Calls Try.prog 16 #[.agg #[.int .i64 src, .int .i64 num], .int .i64 cls, .string name, .slice a data.length c, .agg #[.int .i64 chunk, .int .i64 timeout, .int .i64 retries]] y fun e w' => e = .returned (.tuple #[.agg #[.int .i64 0, .int .i64 0, .int .i64 0, .string ⟨#[]⟩, .slice none 0 0, .int .i64 0, .int .i64 0, .int .i64 0, .int .i64 0, .int .i64 0, .int .i64 0, .int .i64 0, .int .i64 0, .bool false, .bool false, .bool false, .bool false, .bool false, .slice none 0 0, .int .i64 0], .int .i64 1]) ∧ Below y.heap.size y w' := fun y a c => by
    cases hv : (Fil.headP src num cls name data.length).validB with
    | false => exact cRefNewBad y src num cls chunk timeout retries name a data.length c hname hv
    | true =>
      have hc : cfgB chunk timeout retries = false := by rw [newB_eq, hv] at hb; simpa using hb
      exact cRefNewCfg y src num cls chunk timeout retries name a data.length c hname hv hc
  have HRN := hid hrn
  have HNB := hid hb
  clear hrn hb
  go_enter Try.func3, Try.ntmps3
  go_wp2_with (first | (go_at_call 13; refine HSM.out.mono ?_; rintro e w1 ⟨rfl, hb1⟩; have H1 := hid (H0.out.quiet (stab1 (blkP_stable _ _)) hb1); clear hb1; have q0 := (Sts.boxCell H1.out 0 _ rfl).1; have q1 := (Sts.boxCell H1.out 1 _ rfl).1; have q2 := (Sts.boxCell H1.out 2 _ rfl).1; have q3 := (Sts.boxCell H1.out 3 _ rfl).1; have q4 := (Sts.boxCell H1.out 4 _ rfl).1; have q5 := (Sts.boxCell H1.out 5 _ rfl).1; have q6 := (Sts.boxCell H1.out 6 _ rfl).1; have q7 := (Sts.boxCell H1.out 7 _ rfl).1))
  clear HSM H0 q0 q1 q2 q3 q4 q5 q6 q7
  refine (cNewBad (stab1 (blkP_stable _ _)) src num cls name _ data chunk timeout retries H1.out (RdsB.arg HD.out) hname HNB.out).mono ?_
  rintro e w2 ⟨rfl, h⟩
  have H2 := hid h
  clear h H1
  have q0 := (Sts.boxCell H2.out 0 _ rfl).1
  have q1 := (Sts.boxCell H2.out 1 _ rfl).1
  have q2 := (Sts.boxCell H2.out 2 _ rfl).1
  have q3 := (Sts.boxCell H2.out 3 _ rfl).1
  have q4 := (Sts.boxCell H2.out 4 _ rfl).1
  have q5 := (Sts.boxCell H2.out 5 _ rfl).1
  have q6 := (Sts.boxCell H2.out 6 _ rfl).1
  have q7 := (Sts.boxCell H2.out 7 _ rfl).1
  go_wp2_with fail
  clear q0 q1 q2 q3 q4 q5 q6 q7
  refine (HRN.out w2 da dc).mono ?_
  rintro e w3 ⟨rfl, hb3⟩
  have HX0 := hid ((H2.out.quiet (stab1 (blkP_stable _ _)) hb3).alloc (stab1 (blkP_stable _ _)) (.cells #[.int .i64 0, .int .i64 0, .int .i64 0, .string ⟨#[]⟩, .slice none 0 0, .int .i64 0, .int .i64 0, .int .i64 0, .int .i64 0, .int .i64 0, .int .i64 0, .int .i64 0, .int .i64 0, .bool false, .bool false, .bool false, .bool false, .bool false, .slice none 0 0, .int .i64 0] 38))
  clear hb3 H2
  go_wp2_with (first | (refine wpList_store_agg HX0.out (stab1 (blkP_stable _ _)) rfl (.tmp 5) (.tmp 37) 38 rfl #[.int .i64 0, .int .i64 0, .int .i64 0, .string ⟨#[]⟩, .slice none 0 0, .int .i64 0, .int .i64 0, .int .i64 0, .int .i64 0, .int .i64 0, .int .i64 0, .int .i64 0, .int .i64 0, .bool false, .bool false, .bool false, .bool false, .bool false, .slice none 0 0, .int .i64 0] rfl rfl size20 rfl (fun v hv => List.all_eq_true.1 (show (#[.int .i64 0, .int .i64 0, .int .i64 0, .string ⟨#[]⟩, .slice none 0 0, .int .i64 0, .int .i64 0, .int .i64 0, .int .i64 0, .int .i64 0, .int .i64 0, .int .i64 0, .int .i64 0, .bool false, .bool false, .bool false, .bool false, .bool false, .slice none 0 0, .int .i64 0].toList).all (fun v => v.oneCell') = true from rfl) v hv) (by kernel_rfl) ?_; intro w7 hZ; have HX := hid hZ; clear hZ HX0; have HRS := hid (cRefState0 _ _ (Sts.boxCell HX.out 8 _ rfl).1); have HBL := hid HX.out.below; clear HX) | (go_at_call 17; refine (cStateSnil _).mono ?_; rintro e w4 ⟨rfl, rfl⟩) | (go_at_call 18; refine HRS.out.mono ?_; rintro e w4 ⟨rfl, rfl⟩) | (go_at_call 19; refine (cCodeSnil _).mono ?_; rintro e w4 ⟨rfl, rfl⟩) | (go_at_call 14; refine (cLives27 _).mono ?_; rintro e w9 ⟨rfl, hb9⟩; have H9 := hid (HBL.out.trans (hb9.mono HBL.out.size)); clear hb9))
  go_ret
  exact ⟨rfl, H9.out⟩
theorem starts_all (w : World) (src num cls chunk timeout retries : Int) (name : ByteArray) (vd vl : Value) (data : List Nat) (S : List Fil.Stp) (hd : RdB w vd data) (hS : StpsAt w vl S) : Calls Try.prog 3 #[.agg #[.int .i64 src, .int .i64 num, .int .i64 cls, .string name, vd, .int .i64 chunk, .int .i64 timeout, .int .i64 retries, vl]] w fun e w' => e = .returned (.bool true) ∧ Below w.heap.size w w' := by
  cases hsm : Fil.smallB name.size data.length S with
  | false => exact starts_big w src num cls chunk timeout retries name vd vl data S hd hS hsm
  | true =>
    have hname : name.size ≤ 1000000 := by
      unfold Fil.smallB Fil.preB at hsm
      simp only [Bool.and_eq_true, Bool.not_eq_true', Bool.or_eq_false_iff, decide_eq_false_iff_not] at hsm
      omega
    have hn : data.length < 100000000 := by
      unfold Fil.smallB Fil.preB at hsm
      simp only [Bool.and_eq_true, Bool.not_eq_true', Bool.or_eq_false_iff, decide_eq_false_iff_not] at hsm
      omega
    cases hb : Fil.newB src num cls name data.length chunk timeout retries with
    | false => exact starts_bad w src num cls chunk timeout retries name vd vl data S hd hS hsm hname hb
    | true => exact starts_ok w src num cls chunk timeout retries name vd vl data S hd hS hsm hname hb hn
end Go.Proofs.Ytfjadhkhmhnccaa
