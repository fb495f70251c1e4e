/- The tables of names: the services, the kinds of faults. -/
import Derived.Test.YtimnhheagdhpgaaDoorScrG
import Derived.Test.YtimnhheagdhpgaaDoorStepS
set_option linter.unusedVariables false
set_option linter.unusedSimpArgs false
namespace Go.Proofs.YtimnhheagdhpgaaDoor
open Go.RowKit Go.Proofs.Num Scr
structure Row where
  nm : Str
  ar : Int
  da : Bool
  lo : Int
  hi : Int
def Row.cells (r : Row) : List Value := [.string ⟨r.nm.toArray⟩, .int .i64 r.ar, .bool r.da, .int .i64 r.lo, .int .i64 r.hi]
def rowsL : List Row := [⟨[], 0, false, 0, 0⟩,
  ⟨[112, 105, 110, 103], 0, false, 1, 4⟩,
  ⟨[115, 101, 116, 109, 111, 100, 101], 1, false, 1, 4⟩,
  ⟨[115, 101, 116, 112, 97, 114, 97, 109], 2, false, 1, 4⟩,
  ⟨[104, 107, 100, 101, 102, 105, 110, 101], 2, true, 1, 4⟩,
  ⟨[104, 107, 100, 101, 108, 101, 116, 101], 1, false, 1, 4⟩,
  ⟨[104, 107, 101, 110, 97, 98, 108, 101], 2, false, 1, 4⟩,
  ⟨[109, 111, 110, 101, 110, 97, 98, 108, 101], 2, false, 1, 4⟩,
  ⟨[101, 118, 101, 110, 116, 101, 110, 97, 98, 108, 101], 2, false, 1, 4⟩,
  ⟨[97, 99, 116, 97, 100, 100], 1, true, 2, 4⟩,
  ⟨[97, 99, 116, 100, 101, 108, 101, 116, 101], 1, false, 2, 4⟩,
  ⟨[97, 99, 116, 101, 110, 97, 98, 108, 101], 2, false, 2, 4⟩,
  ⟨[115, 99, 104, 101, 100, 105, 110, 115, 101, 114, 116], 2, true, 2, 4⟩,
  ⟨[115, 99, 104, 101, 100, 100, 101, 108, 101, 116, 101], 1, false, 2, 4⟩,
  ⟨[115, 99, 104, 101, 100, 115, 104, 105, 102, 116], 2, false, 2, 4⟩,
  ⟨[115, 99, 104, 101, 100, 101, 110, 97, 98, 108, 101], 2, false, 2, 4⟩,
  ⟨[115, 101, 113, 108, 111, 97, 100], 2, true, 2, 4⟩,
  ⟨[115, 101, 113, 115, 116, 97, 114, 116], 1, false, 3, 4⟩,
  ⟨[115, 101, 113, 115, 116, 111, 112], 1, false, 1, 4⟩,
  ⟨[109, 101, 109, 108, 111, 97, 100], 2, true, 1, 2⟩,
  ⟨[109, 101, 109, 100, 117, 109, 112], 2, false, 1, 4⟩,
  ⟨[109, 101, 109, 99, 104, 101, 99, 107], 2, false, 1, 4⟩,
  ⟨[102, 105, 108, 101, 115, 101, 110, 100], 1, true, 2, 4⟩,
  ⟨[102, 105, 108, 101, 100, 101, 108, 101, 116, 101], 0, true, 2, 4⟩,
  ⟨[102, 105, 108, 101, 99, 111, 110, 116, 114, 111, 108], 1, false, 1, 4⟩,
  ⟨[117, 110, 105, 116, 115, 119, 105, 116, 99, 104], 2, false, 1, 2⟩,
  ⟨[114, 101, 99, 114, 101, 112, 108, 97, 121], 3, false, 2, 4⟩,
  ⟨[114, 101, 99, 100, 101, 108, 101, 116, 101], 2, false, 2, 4⟩,
  ⟨[114, 101, 98, 111, 111, 116], 0, false, 1, 2⟩]
def tabV : Array Value := (rowsL.flatMap Row.cells).toArray
theorem names_are : rowsL.map (·.nm) = [] :: svcs := by decide +kernel
set_option maxRecDepth 100000 in
theorem sizeTab : ∀ w, (Go.sizeOf 93).run Tryd.prog w = .ok 145 w := fun w => by first | rfl | simp [go_sem] | kernel_rfl
set_option maxRecDepth 100000 in
theorem infoTab : (Tryd.prog.info? 93).map (·.size) = some 145 := by kernel_rfl
theorem ldTab {W w : World} {b : Nat} {l : List HProp} (h : Sts W (blkP b (.cells tabV 93 (0, 0)) :: l) w) : (loadVar 93 ⟨b, 0, none⟩).run Tryd.prog w = .ok (.agg tabV) w := by
  have hb : w.heap[b]? = some (.cells tabV 93 (0, 0)) := by obtain ⟨F, hF⟩ := h.head; exact hF.1
  exact run_loadVar_row (P := Tryd.prog) w b 93 93 tabV (0, 0) _ hb Tryd.underlying93 rfl (by rw [infoTab]; rfl)
section
variable {w : World}
set_option maxRecDepth 100000 in
set_option maxHeartbeats 8000000 in
theorem cTable : Calls Tryd.prog 66 #[] w fun e w' => e = .returned (.agg tabV) ∧ Below w.heap.size w w' := by
  have hz : ∀ cs, Sts w [blkP w.heap.size (.cells cs 93 (0, 0))] (w.alloc (.cells cs 93)) := fun cs => (Sts.nil w).alloc stab0 _
  go_enter Tryd.func66, Tryd.ntmps66
  go_wp2_with (refine wpList_agg (hz _) stab0 rfl (.tmp 0) (.tmp 29) 93 rfl tabV rfl (by kernel_rfl) (sizeTab) (by rfl) (by kernel_rfl) ?_; intro w1 hw1; have HF := hid hw1; clear hw1)
  refine post_cell1 HF.out Tryd.results66 rfl rfl (ldTab HF.out) ⟨rfl, HF.out.below⟩
end
end Go.Proofs.YtimnhheagdhpgaaDoor
