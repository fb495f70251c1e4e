/- A configuration or an entity's number that is not valid: courier.New. The specification's New of an entity. -/
import Derived.Test.YtgidckkcibplgaaGreatStnC
set_option linter.unusedVariables false
set_option linter.unusedSimpArgs false
set_option linter.unusedSectionVars false
namespace Go.Proofs.YtgidckkcibplgaaGreat
open Go.RowKit Go.Proofs.Num
section
variable {W w : World} {l : List HProp} (hl : ∀ B ∈ l, Stable B)
include hl
set_option maxRecDepth 100000 in
set_option maxHeartbeats 4000000 in
theorem cCouBadS (self chunk to re : Int) (st : Option Addr) (hs : Sts W l w) (hb : ¬ ((0 ≤ self ∧ self ≤ 15) ∧ (1 ≤ chunk ∧ chunk ≤ 512) ∧ (1 ≤ to ∧ to ≤ 1048576) ∧ (0 ≤ re ∧ re ≤ 255))) :
    Calls Tryz.prog 19 #[.int .i64 self, .pointer st, .agg #[.int .i64 chunk, .int .i64 to, .int .i64 re]] w fun e w' => e = .returned (.tuple #[.pointer none, .int .i64 1]) ∧ Sts W l w' := by
  have HS := hid (hs.alloc hl (.cells #[.int .i64 chunk, .int .i64 to, .int .i64 re] 23))
  have k0 := (Sts.boxCell HS.out 0 _ rfl).1
  have k1 := (Sts.boxCell HS.out 1 _ rfl).1
  have k2 := (Sts.boxCell HS.out 2 _ rfl).1
  have HX := hid HS.out.tail
  clear hs HS
  rcases (by omega : ((self < 0)) ∨ (¬ (self < 0) ∧ (15 < self)) ∨ (¬ (self < 0) ∧ ¬ (15 < self) ∧ (chunk < 1)) ∨ (¬ (self < 0) ∧ ¬ (15 < self) ∧ ¬ (chunk < 1) ∧ (512 < chunk)) ∨ (¬ (self < 0) ∧ ¬ (15 < self) ∧ ¬ (chunk < 1) ∧ ¬ (512 < chunk) ∧ (to < 1)) ∨ (¬ (self < 0) ∧ ¬ (15 < self) ∧ ¬ (chunk < 1) ∧ ¬ (512 < chunk) ∧ ¬ (to < 1) ∧ (1048576 < to)) ∨ (¬ (self < 0) ∧ ¬ (15 < self) ∧ ¬ (chunk < 1) ∧ ¬ (512 < chunk) ∧ ¬ (to < 1) ∧ ¬ (1048576 < to) ∧ (re < 0)) ∨ (¬ (self < 0) ∧ ¬ (15 < self) ∧ ¬ (chunk < 1) ∧ ¬ (512 < chunk) ∧ ¬ (to < 1) ∧ ¬ (1048576 < to) ∧ ¬ (re < 0) ∧ (255 < re))) with h | h | h | h | h | h | h | h
  · have d0 : decide (self < 0) = true := decide_eq_true (by omega)
    clear hb h
    go_enter Tryz.func19, Tryz.ntmps19
    go_wp2_with fail
    go_ret2
    exact ⟨rfl, HX.out⟩
  · have d0 : decide (self < 0) = false := decide_eq_false (by omega)
    have d1 : decide (15 < self) = true := decide_eq_true (by omega)
    clear hb h
    go_enter Tryz.func19, Tryz.ntmps19
    go_wp2_with fail
    go_ret2
    exact ⟨rfl, HX.out⟩
  · have d0 : decide (self < 0) = false := decide_eq_false (by omega)
    have d1 : decide (15 < self) = false := decide_eq_false (by omega)
    have d2 : decide (chunk < 1) = true := decide_eq_true (by omega)
    clear hb h
    go_enter Tryz.func19, Tryz.ntmps19
    go_wp2_with fail
    go_ret2
    exact ⟨rfl, HX.out⟩
  · have d0 : decide (self < 0) = false := decide_eq_false (by omega)
    have d1 : decide (15 < self) = false := decide_eq_false (by omega)
    have d2 : decide (chunk < 1) = false := decide_eq_false (by omega)
    have d3 : decide (512 < chunk) = true := decide_eq_true (by omega)
    clear hb h
    go_enter Tryz.func19, Tryz.ntmps19
    go_wp2_with fail
    go_ret2
    exact ⟨rfl, HX.out⟩
  · have d0 : decide (self < 0) = false := decide_eq_false (by omega)
    have d1 : decide (15 < self) = false := decide_eq_false (by omega)
    have d2 : decide (chunk < 1) = false := decide_eq_false (by omega)
    have d3 : decide (512 < chunk) = false := decide_eq_false (by omega)
    have d4 : decide (to < 1) = true := decide_eq_true (by omega)
    clear hb h
    go_enter Tryz.func19, Tryz.ntmps19
    go_wp2_with fail
    go_ret2
    exact ⟨rfl, HX.out⟩
  · have d0 : decide (self < 0) = false := decide_eq_false (by omega)
    have d1 : decide (15 < self) = false := decide_eq_false (by omega)
    have d2 : decide (chunk < 1) = false := decide_eq_false (by omega)
    have d3 : decide (512 < chunk) = false := decide_eq_false (by omega)
    have d4 : decide (to < 1) = false := decide_eq_false (by omega)
    have d5 : decide (1048576 < to) = true := decide_eq_true (by omega)
    clear hb h
    go_enter Tryz.func19, Tryz.ntmps19
    go_wp2_with fail
    go_ret2
    exact ⟨rfl, HX.out⟩
  · have d0 : decide (self < 0) = false := decide_eq_false (by omega)
    have d1 : decide (15 < self) = false := decide_eq_false (by omega)
    have d2 : decide (chunk < 1) = false := decide_eq_false (by omega)
    have d3 : decide (512 < chunk) = false := decide_eq_false (by omega)
    have d4 : decide (to < 1) = false := decide_eq_false (by omega)
    have d5 : decide (1048576 < to) = false := decide_eq_false (by omega)
    have d6 : decide (re < 0) = true := decide_eq_true (by omega)
    clear hb h
    go_enter Tryz.func19, Tryz.ntmps19
    go_wp2_with fail
    go_ret2
    exact ⟨rfl, HX.out⟩
  · have d0 : decide (self < 0) = false := decide_eq_false (by omega)
    have d1 : decide (15 < self) = false := decide_eq_false (by omega)
    have d2 : decide (chunk < 1) = false := decide_eq_false (by omega)
    have d3 : decide (512 < chunk) = false := decide_eq_false (by omega)
    have d4 : decide (to < 1) = false := decide_eq_false (by omega)
    have d5 : decide (1048576 < to) = false := decide_eq_false (by omega)
    have d6 : decide (re < 0) = false := decide_eq_false (by omega)
    have d7 : decide (255 < re) = true := decide_eq_true (by omega)
    clear hb h
    go_enter Tryz.func19, Tryz.ntmps19
    go_wp2_with fail
    go_ret2
    exact ⟨rfl, HX.out⟩
end
end Go.Proofs.YtgidckkcibplgaaGreat
namespace Go.Proofs.YtgidckkcibplgaaGreat
open Go.RowKit Go.Proofs.Num
/-- The specification's entity, new. -/
def cou29 (self chunk to re next : Int) (dn : Value) : Array Value := #[.int .i64 self, .int .i64 1, .int .i64 1, .slice none 0 0, .int .i64 chunk, .int .i64 to, .int .i64 re, .int .i64 next, .int .i64 0, .slice none 0 0, dn, .slice none 0 0, .bool false, .int .i64 0, .int .i64 0, .bool false]
def zero29 : Array Value := #[.int .i64 0, .int .i64 0, .int .i64 0, .slice none 0 0, .int .i64 0, .int .i64 0, .int .i64 0, .int .i64 0, .int .i64 0, .slice none 0 0, .slice none 0 0, .slice none 0 0, .bool false, .int .i64 0, .int .i64 0, .bool false]
set_option maxRecDepth 100000 in
theorem infoC29 : (Tryz.prog.info? 40).map (·.size) = some 16 := by kernel_rfl
set_option maxRecDepth 100000 in
theorem sizeC29 : ∀ w, (Go.sizeOf 40).run Tryz.prog w = .ok 16 w := fun w => by first | rfl | simp [go_sem] | kernel_rfl
theorem ldC29 {W w : World} {l : List HProp} {b : Nat} {cs : Array Value} (hcs : cs.size = 16) (h : Sts W (blkP b (.cells cs 40 (0, 0)) :: l) w) : (loadVar 40 ⟨b, 0, none⟩).run Tryz.prog w = .ok (.agg cs) w := by
  have hb : w.heap[b]? = some (.cells cs 40 (0, 0)) := by obtain ⟨F, hF⟩ := h.head; exact hF.1
  exact run_loadVar_row (P := Tryz.prog) w b 40 40 cs (0, 0) _ hb Tryz.underlying40 rfl (by rw [infoC29, hcs])
section
variable {W w : World} {l : List HProp} (hl : ∀ B ∈ l, Stable B)
include hl
set_option maxRecDepth 100000 in
theorem cRCfgT (chunk to re : Int) (hs : Sts W l w) (h4 : 1 ≤ chunk ∧ chunk ≤ 512) (h5 : 1 ≤ to ∧ to ≤ 1048576) (h6 : 0 ≤ re ∧ re ≤ 255) :
    Calls Tryz.prog 76 #[.agg #[.int .i64 chunk, .int .i64 to, .int .i64 re]] w fun e w' => e = .returned (.bool true) ∧ Sts W l w' := by
  have HX := hid ((hs.alloc hl (.cells #[.int .i64 chunk, .int .i64 to, .int .i64 re] 23)).tail)
  have d1 : decide (1 ≤ chunk) = true := decide_eq_true h4.1
  have d2 : decide (chunk ≤ 512) = true := decide_eq_true h4.2
  have d3 : decide (1 ≤ to) = true := decide_eq_true h5.1
  have d4 : decide (to ≤ 1048576) = true := decide_eq_true h5.2
  have d5 : decide (0 ≤ re) = true := decide_eq_true h6.1
  have d6 : decide (re ≤ 255) = true := decide_eq_true h6.2
  clear hs h4 h5 h6
  go_enter Tryz.func76, Tryz.ntmps76
  go_wp2_with fail
  go_ret
  exact ⟨rfl, HX.out⟩
set_option maxRecDepth 100000 in
set_option maxHeartbeats 2000000 in
theorem cRCfgF (chunk to re : Int) (hs : Sts W l w) (hb : ¬ ((1 ≤ chunk ∧ chunk ≤ 512) ∧ (1 ≤ to ∧ to ≤ 1048576) ∧ (0 ≤ re ∧ re ≤ 255))) :
    Calls Tryz.prog 76 #[.agg #[.int .i64 chunk, .int .i64 to, .int .i64 re]] w fun e w' => e = .returned (.bool false) ∧ Sts W l w' := by
  have HX := hid ((hs.alloc hl (.cells #[.int .i64 chunk, .int .i64 to, .int .i64 re] 23)).tail)
  have hu : @Go.yielded.match_1 (fun _ => Option Bool) (some undef) (fun b => some b) (fun _ => none) = none := rfl
  clear hs
  rcases (by omega : (¬ (1 ≤ chunk)) ∨ ((1 ≤ chunk) ∧ ¬ (chunk ≤ 512)) ∨ ((1 ≤ chunk) ∧ (chunk ≤ 512) ∧ ¬ (1 ≤ to)) ∨ ((1 ≤ chunk) ∧ (chunk ≤ 512) ∧ (1 ≤ to) ∧ ¬ (to ≤ 1048576)) ∨ ((1 ≤ chunk) ∧ (chunk ≤ 512) ∧ (1 ≤ to) ∧ (to ≤ 1048576) ∧ ¬ (0 ≤ re)) ∨ ((1 ≤ chunk) ∧ (chunk ≤ 512) ∧ (1 ≤ to) ∧ (to ≤ 1048576) ∧ (0 ≤ re) ∧ ¬ (re ≤ 255))) with h | h | h | h | h | h
  · have d0 : decide (1 ≤ chunk) = false := decide_eq_false (by omega)
    clear hb h
    go_enter Tryz.func76, Tryz.ntmps76
    go_wp2_with fail
    go_ret
    exact ⟨rfl, HX.out⟩
  · have d0 : decide (1 ≤ chunk) = true := decide_eq_true (by omega)
    have d1 : decide (chunk ≤ 512) = false := decide_eq_false (by omega)
    clear hb h
    go_enter Tryz.func76, Tryz.ntmps76
    go_wp2_with fail
    go_ret
    exact ⟨rfl, HX.out⟩
  · have d0 : decide (1 ≤ chunk) = true := decide_eq_true (by omega)
    have d1 : decide (chunk ≤ 512) = true := decide_eq_true (by omega)
    have d2 : decide (1 ≤ to) = false := decide_eq_false (by omega)
    clear hb h
    go_enter Tryz.func76, Tryz.ntmps76
    go_wp2_with fail
    go_ret
    exact ⟨rfl, HX.out⟩
  · have d0 : decide (1 ≤ chunk) = true := decide_eq_true (by omega)
    have d1 : decide (chunk ≤ 512) = true := decide_eq_true (by omega)
    have d2 : decide (1 ≤ to) = true := decide_eq_true (by omega)
    have d3 : decide (to ≤ 1048576) = false := decide_eq_false (by omega)
    clear hb h
    go_enter Tryz.func76, Tryz.ntmps76
    go_wp2_with fail
    go_ret
    exact ⟨rfl, HX.out⟩
  · have d0 : decide (1 ≤ chunk) = true := decide_eq_true (by omega)
    have d1 : decide (chunk ≤ 512) = true := decide_eq_true (by omega)
    have d2 : decide (1 ≤ to) = true := decide_eq_true (by omega)
    have d3 : decide (to ≤ 1048576) = true := decide_eq_true (by omega)
    have d4 : decide (0 ≤ re) = false := decide_eq_false (by omega)
    clear hb h
    go_enter Tryz.func76, Tryz.ntmps76
    go_wp2_with fail
    go_ret
    exact ⟨rfl, HX.out⟩
  · have d0 : decide (1 ≤ chunk) = true := decide_eq_true (by omega)
    have d1 : decide (chunk ≤ 512) = true := decide_eq_true (by omega)
    have d2 : decide (1 ≤ to) = true := decide_eq_true (by omega)
    have d3 : decide (to ≤ 1048576) = true := decide_eq_true (by omega)
    have d4 : decide (0 ≤ re) = true := decide_eq_true (by omega)
    have d5 : decide (re ≤ 255) = false := decide_eq_false (by omega)
    clear hb h
    go_enter Tryz.func76, Tryz.ntmps76
    go_wp2_with fail
    go_ret
    exact ⟨rfl, HX.out⟩
set_option maxRecDepth 100000 in
set_option maxHeartbeats 2000000 in
theorem cRNew29T (self chunk to re : Int) (hs : Sts W l w) (h3 : 0 ≤ self ∧ self ≤ 15) (h4 : 1 ≤ chunk ∧ chunk ≤ 512) (h5 : 1 ≤ to ∧ to ≤ 1048576) (h6 : 0 ≤ re ∧ re ≤ 255) :
    Calls Tryz.prog 33 #[.int .i64 self, .agg #[.int .i64 1, .int .i64 1, .slice none 0 0], .agg #[.int .i64 chunk, .int .i64 to, .int .i64 re]] w fun e w' => e = .returned (.tuple #[.agg (cou29 self chunk to re 1 (.slice none 0 0)), .int .i64 0]) ∧ Sts W l w' := by
  have H1 := hs.alloc hl (.cells #[.int .i64 1, .int .i64 1, .slice none 0 0] 34)
  have H2 := H1.alloc (stabC (blkP_stable _ _) hl) (.cells #[.int .i64 chunk, .int .i64 to, .int .i64 re] 23)
  have HS := hid (H2.alloc (stabC (blkP_stable _ _) (stabC (blkP_stable _ _) hl)) (.cells zero29 40))
  have HL1 := hid (stabC (blkP_stable w.heap.size (.cells #[.int .i64 1, .int .i64 1, .slice none 0 0] 34 (0, 0))) hl)
  have e1 : (w.alloc (.cells #[.int .i64 1, .int .i64 1, .slice none 0 0] 34)).heap.size = w.heap.size + 1 := Array.size_push ..
  have HL2 := hid (stabC (blkP_stable (w.heap.size + 1) (.cells #[.int .i64 chunk, .int .i64 to, .int .i64 re] 23 (0, 0))) HL1.out)
  have e2 : ((w.alloc (.cells #[.int .i64 1, .int .i64 1, .slice none 0 0] 34)).alloc (.cells #[.int .i64 chunk, .int .i64 to, .int .i64 re] 23)).heap.size = w.heap.size + 1 + 1 := by show (Array.push _ _).size = _; rw [Array.size_push, e1]
  rw [e1, e2] at HS
  have HS2 := hid HS.out
  clear HS H1 H2 e1 e2
  unfold zero29 at HS2
  have d1 : decide (self < 0) = false := decide_eq_false (by omega)
  have d2 : decide (15 < self) = false := decide_eq_false (by omega)
  clear hs h3
  have H4 := hid h4
  have H5 := hid h5
  have H6 := hid h6
  clear h4 h5 h6
  go_enter Tryz.func33, Tryz.ntmps33
  go_wp2_with (first
    | (go_at_call 76; refine (cRCfgT (stabC (blkP_stable _ _) HL2.out) chunk to re HS2.out H4.out H5.out H6.out).mono ?_; rintro e w2 ⟨rfl, h⟩; have HC := hid h; clear h HS2; have k0 : w2.cell? ⟨w.heap.size, 0, none⟩ = some (.int .i64 1) := (Sts.boxCell HC.out.tail.tail 0 _ rfl).1; have k1 : w2.cell? ⟨w.heap.size, 1, none⟩ = some (.int .i64 1) := (Sts.boxCell HC.out.tail.tail 1 _ rfl).1; have k2 : w2.cell? ⟨w.heap.size, 2, none⟩ = some (.slice none 0 0) := (Sts.boxCell HC.out.tail.tail 2 _ rfl).1; have k3 : w2.cell? ⟨w.heap.size + 1, 0, none⟩ = some (.int .i64 chunk) := (Sts.boxCell HC.out.tail 0 _ rfl).1; have k4 : w2.cell? ⟨w.heap.size + 1, 1, none⟩ = some (.int .i64 to) := (Sts.boxCell HC.out.tail 1 _ rfl).1; have k5 : w2.cell? ⟨w.heap.size + 1, 2, none⟩ = some (.int .i64 re) := (Sts.boxCell HC.out.tail 2 _ rfl).1)
    | (refine wpList_aggS HC.out HL2.out rfl (.tmp 6) (.tmp 23) 40 rfl (cou29 self chunk to re 1 (.slice none 0 0)) rfl rfl sizeC29 rfl rfl ?_; intro w4 h4; have HB := hid h4; clear h4 HC k0 k1 k2 k3 k4 k5))
  exact post_cell2S HB.out Tryz.results33 rfl rfl (ldC29 rfl HB.out) _ rfl ⟨rfl, HB.out.tail.tail.tail⟩
set_option maxRecDepth 100000 in
set_option maxHeartbeats 4000000 in
theorem cRNew29F (self chunk to re : Int) (hs : Sts W l w) (hb : ¬ ((0 ≤ self ∧ self ≤ 15) ∧ (1 ≤ chunk ∧ chunk ≤ 512) ∧ (1 ≤ to ∧ to ≤ 1048576) ∧ (0 ≤ re ∧ re ≤ 255))) :
    Calls Tryz.prog 33 #[.int .i64 self, .agg #[.int .i64 1, .int .i64 1, .slice none 0 0], .agg #[.int .i64 chunk, .int .i64 to, .int .i64 re]] w fun e w' => e = .returned (.tuple #[.agg zero29, .int .i64 1]) ∧ Sts W l w' := by
  have H1 := hs.alloc hl (.cells #[.int .i64 1, .int .i64 1, .slice none 0 0] 34)
  have H2 := H1.alloc (stabC (blkP_stable _ _) hl) (.cells #[.int .i64 chunk, .int .i64 to, .int .i64 re] 23)
  have HS := hid (H2.alloc (stabC (blkP_stable _ _) (stabC (blkP_stable _ _) hl)) (.cells zero29 40))
  have HL1 := hid (stabC (blkP_stable w.heap.size (.cells #[.int .i64 1, .int .i64 1, .slice none 0 0] 34 (0, 0))) hl)
  have e1 : (w.alloc (.cells #[.int .i64 1, .int .i64 1, .slice none 0 0] 34)).heap.size = w.heap.size + 1 := Array.size_push ..
  have HL2 := hid (stabC (blkP_stable (w.heap.size + 1) (.cells #[.int .i64 chunk, .int .i64 to, .int .i64 re] 23 (0, 0))) HL1.out)
  have e2 : ((w.alloc (.cells #[.int .i64 1, .int .i64 1, .slice none 0 0] 34)).alloc (.cells #[.int .i64 chunk, .int .i64 to, .int .i64 re] 23)).heap.size = w.heap.size + 1 + 1 := by show (Array.push _ _).size = _; rw [Array.size_push, e1]
  rw [e1, e2] at HS
  have HS2 := hid HS.out
  clear HS H1 H2 e1 e2
  unfold zero29 at HS2
  clear hs
  rcases (by omega : (self < 0) ∨ (¬ (self < 0) ∧ 15 < self) ∨ (¬ (self < 0) ∧ ¬ (15 < self) ∧ ¬ ((1 ≤ chunk ∧ chunk ≤ 512) ∧ (1 ≤ to ∧ to ≤ 1048576) ∧ (0 ≤ re ∧ re ≤ 255)))) with h | h | h
  · have d1 : decide (self < 0) = true := decide_eq_true h
    clear h hb
    go_enter Tryz.func33, Tryz.ntmps33
    go_wp2_with fail
    exact post_cell2S HS2.out Tryz.results33 rfl rfl (ldC29 rfl HS2.out) _ rfl ⟨rfl, HS2.out.tail.tail.tail⟩
  · have d1 : decide (self < 0) = false := decide_eq_false h.1
    have d2 : decide (15 < self) = true := decide_eq_true h.2
    clear h hb
    go_enter Tryz.func33, Tryz.ntmps33
    go_wp2_with fail
    exact post_cell2S HS2.out Tryz.results33 rfl rfl (ldC29 rfl HS2.out) _ rfl ⟨rfl, HS2.out.tail.tail.tail⟩
  · have d1 : decide (self < 0) = false := decide_eq_false h.1
    have d2 : decide (15 < self) = false := decide_eq_false h.2.1
    have HB := hid h.2.2
    clear h hb
    go_enter Tryz.func33, Tryz.ntmps33
    go_wp2_with (first
      | (go_at_call 76; refine (cRCfgF (stabC (blkP_stable _ _) HL2.out) chunk to re HS2.out HB.out).mono ?_; rintro e w2 ⟨rfl, h⟩; have HC := hid h; clear h HS2)
      | (refine wpList_aggS HC.out HL2.out rfl (.tmp 6) (.tmp 19) 40 rfl zero29 rfl rfl sizeC29 rfl rfl ?_; intro w4 h4; have HD := hid h4; clear h4 HC))
    exact post_cell2S HD.out Tryz.results33 rfl rfl (ldC29 rfl HD.out) _ rfl ⟨rfl, HD.out.tail.tail.tail⟩
end
set_option maxRecDepth 100000 in
theorem infoS26 : (Tryz.prog.info? 34).map (·.size) = some 3 := by kernel_rfl
set_option maxRecDepth 100000 in
theorem cRFil26 (w : World) : Calls Tryz.prog 13 #[.int .i64 1, .int .i64 1] w fun e w' => e = .returned (.agg #[.int .i64 1, .int .i64 1, .slice none 0 0]) ∧ Below w.heap.size w w' := by
  have n1 : max (1 : Int) 0 = 1 := by omega
  have m1 : min (1 : Int) 256 = 1 := by omega
  have m2 : min (1 : Int) 2147483648 = 1 := by omega
  go_enter Tryz.func13, Tryz.ntmps13
  go_wp2_with fail
  have HS := (Sts.nil w).alloc stab0 (.cells #[.int .i64 1, .int .i64 1, .slice none 0 0] 34)
  have hb : (w.alloc (.cells #[.int .i64 1, .int .i64 1, .slice none 0 0] 34)).heap[w.heap.size]? = some (.cells #[.int .i64 1, .int .i64 1, .slice none 0 0] 34 (0, 0)) := by obtain ⟨F, hF⟩ := HS.head; exact hF.1
  exact post_cell1S HS Tryz.results13 rfl rfl (run_loadVar_row (P := Tryz.prog) _ _ 34 34 #[.int .i64 1, .int .i64 1, .slice none 0 0] (0, 0) _ hb Tryz.underlying34 rfl (by rw [infoS26]; rfl)) ⟨rfl, HS.below⟩
end Go.Proofs.YtgidckkcibplgaaGreat
