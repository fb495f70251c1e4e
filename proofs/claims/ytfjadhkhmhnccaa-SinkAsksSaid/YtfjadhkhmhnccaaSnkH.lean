/- The receiving end: repeat. -/
import Derived.Test.YtfjadhkhmhnccaaSnkM
import Derived.Test.YtfjadhkhmhnccaaSnkB
set_option linter.unusedVariables false
set_option linter.unusedSimpArgs false
namespace Fil
open Go
def Snk.repP (s : Snk) : Pdu := if s.repV.2 = true then s.reportP else {}
end Fil
namespace Go.Proofs.Ytfjadhkhmhnccaa
open Go.RowKit Go.Proofs.Num
section
variable {W w : World} {l : List HProp} (hl : ∀ B ∈ l, Stable B) (q : Nat) (s : Fil.Snk) (hs : Sts W (snkP q s :: l) w)
include hl hs
set_option maxRecDepth 100000 in
set_option maxHeartbeats 2000000 in
theorem cRepDon (hd : s.don = true) : Calls Try.prog 92 #[.pointer (some ⟨q, 0, none⟩)] w fun e w' => e = .returned (.tuple #[.agg s.reportP.cells, .bool true]) ∧ Sts W (snkP q { s with don := false } :: l) w' := by
  have hls : ∀ B ∈ snkP q s :: l, Stable B := stabC (snkP_stable _ _) hl
  have hz : Sts W (blkP w.heap.size (.cells zeroPdu 45 (0, 0)) :: snkP q s :: l) (w.alloc (.cells #[.int .i64 0, .int .i64 0, .int .i64 0, .int .i64 0, .string ⟨#[]⟩, .int .i64 0, .int .i64 0, .slice none 0 0, .int .u32 0, .int .i64 0, .slice none 0 0] 45)) := hs.alloc hls (.cells zeroPdu 45 (0, 0))
  have HN : Hid (∀ n, Sts W (blkP w.heap.size (.cells zeroPdu 45 (0, 0)) :: snkP q s :: l) ((w.alloc (.cells #[.int .i64 0, .int .i64 0, .int .i64 0, .int .i64 0, .string ⟨#[]⟩, .int .i64 0, .int .i64 0, .slice none 0 0, .int .u32 0, .int .i64 0, .slice none 0 0] 45)).drewN n)) := hid fun n => hz.quiet (stabC (blkP_stable _ _) hls) (below_drewN (Below.refl _ _) n)
  have HA : Hid (∀ n, Calls Try.prog 91 #[.pointer (some ⟨q, 0, none⟩)] ((w.alloc (.cells #[.int .i64 0, .int .i64 0, .int .i64 0, .int .i64 0, .string ⟨#[]⟩, .int .i64 0, .int .i64 0, .slice none 0 0, .int .u32 0, .int .i64 0, .slice none 0 0] 45)).drewN n) fun e w' => e = .returned (.bool (s.cls == 2)) ∧ (w.alloc (.cells #[.int .i64 0, .int .i64 0, .int .i64 0, .int .i64 0, .string ⟨#[]⟩, .int .i64 0, .int .i64 0, .slice none 0 0, .int .u32 0, .int .i64 0, .slice none 0 0] 45)).drewN n = w') := hid fun n => cAckd q s (HN.out n).swap
  obtain ⟨dv, gv, h⟩ := Sts.openSnk hz.swap
  have HS := hid h
  have HL := hid hl
  have HSN : Hid (∀ n, Sts W (blkP q (.cells ((s).cells dv gv) 109 (0, 0)) :: rowP 5 1 dv (s).data.length (u8s (s).data) :: rowP 81 2 gv (s).got.length (Fil.rcells (s).got) :: blkP w.heap.size (.cells zeroPdu 45 (0, 0)) :: l) ((w.alloc (.cells #[.int .i64 0, .int .i64 0, .int .i64 0, .int .i64 0, .string ⟨#[]⟩, .int .i64 0, .int .i64 0, .slice none 0 0, .int .u32 0, .int .i64 0, .slice none 0 0] 45)).drewN n)) := hid fun n => h.quiet (stabC (blkP_stable _ _) (stabC (rowP_stable _ _ _ _ _) (stabC (rowP_stable _ _ _ _ _) (stabC (blkP_stable _ _) HL.out)))) (below_drewN (Below.refl _ _) n)
  have hC := Sts.snkC h
  have k23 := hC.k23
  (try dsimp only at k23)
  clear h hz hs hls hl hC
  rw [hd] at k23
  go_enter Try.func92, Try.ntmps92
  go_wp2_with (first | (refine wpList_cell HS.out (stabC (rowP_stable _ _ _ _ _) (stabC (rowP_stable _ _ _ _ _) (stabC (blkP_stable _ _) HL.out))) rfl (.tmp 10) (.const (.bool false)) 4 rfl 23 (.bool false) rfl rfl szBoolK (show 23 < 25 by decide) rfl ?_; intro w1 hz; replace hz : Sts W (blkP q (.cells (({ s with don := false }).cells dv gv) 109 (0, 0)) :: rowP 5 1 dv (s).data.length (u8s (s).data) :: rowP 81 2 gv (s).got.length (Fil.rcells (s).got) :: blkP w.heap.size (.cells zeroPdu 45 (0, 0)) :: l) w1 := hz; have H1 := hid hz; have HR := hid (cReportK (stabC (blkP_stable _ _) HL.out) q { s with don := false } (Sts.shutSnk (s := { s with don := false }) (dv := dv) (gv := gv) hz)); clear hz) | (go_at_call 119; refine HR.out.mono ?_; rintro e w2 ⟨rfl, hw⟩; have H2 := hid hw.swap; clear hw) | (refine wpList_agg H2.out (stabC (snkP_stable _ _) HL.out) rfl (.tmp 2) (.tmp 12) 45 rfl s.reportP.cells rfl rfl sizePdu rfl rfl ?_; intro w3 hz; have HF := hid hz; clear hz))
  exact post_cell2 HF.out Try.results92 rfl rfl (ldPdu rfl HF.out) (.bool true) rfl ⟨rfl, HF.out.tail⟩
set_option maxRecDepth 100000 in
set_option maxHeartbeats 2000000 in
theorem cRepNo0 (hd : s.don = false) (hT : 0 ≤ s.timer + s.timeout ∧ s.timer + s.timeout < 4611686018427387904) (h2 : (s.cls == 2) = false) : Calls Try.prog 92 #[.pointer (some ⟨q, 0, none⟩)] w fun e w' => e = .returned (.tuple #[.agg zeroPdu, .bool false]) ∧ Sts W (snkP q s :: l) w' := by
  have hwr : IntKind.i64.wrap (s.timer + s.timeout) = s.timer + s.timeout := by rw [IntKind.wrap_i64]; omega
  have hls : ∀ B ∈ snkP q s :: l, Stable B := stabC (snkP_stable _ _) hl
  have hz : Sts W (blkP w.heap.size (.cells zeroPdu 45 (0, 0)) :: snkP q s :: l) (w.alloc (.cells #[.int .i64 0, .int .i64 0, .int .i64 0, .int .i64 0, .string ⟨#[]⟩, .int .i64 0, .int .i64 0, .slice none 0 0, .int .u32 0, .int .i64 0, .slice none 0 0] 45)) := hs.alloc hls (.cells zeroPdu 45 (0, 0))
  have HN : Hid (∀ n, Sts W (blkP w.heap.size (.cells zeroPdu 45 (0, 0)) :: snkP q s :: l) ((w.alloc (.cells #[.int .i64 0, .int .i64 0, .int .i64 0, .int .i64 0, .string ⟨#[]⟩, .int .i64 0, .int .i64 0, .slice none 0 0, .int .u32 0, .int .i64 0, .slice none 0 0] 45)).drewN n)) := hid fun n => hz.quiet (stabC (blkP_stable _ _) hls) (below_drewN (Below.refl _ _) n)
  have HA : Hid (∀ n, Calls Try.prog 91 #[.pointer (some ⟨q, 0, none⟩)] ((w.alloc (.cells #[.int .i64 0, .int .i64 0, .int .i64 0, .int .i64 0, .string ⟨#[]⟩, .int .i64 0, .int .i64 0, .slice none 0 0, .int .u32 0, .int .i64 0, .slice none 0 0] 45)).drewN n) fun e w' => e = .returned (.bool (s.cls == 2)) ∧ (w.alloc (.cells #[.int .i64 0, .int .i64 0, .int .i64 0, .int .i64 0, .string ⟨#[]⟩, .int .i64 0, .int .i64 0, .slice none 0 0, .int .u32 0, .int .i64 0, .slice none 0 0] 45)).drewN n = w') := hid fun n => cAckd q s (HN.out n).swap
  obtain ⟨dv, gv, h⟩ := Sts.openSnk hz.swap
  have HS := hid h
  have HL := hid hl
  have HSN : Hid (∀ n, Sts W (blkP q (.cells ((s).cells dv gv) 109 (0, 0)) :: rowP 5 1 dv (s).data.length (u8s (s).data) :: rowP 81 2 gv (s).got.length (Fil.rcells (s).got) :: blkP w.heap.size (.cells zeroPdu 45 (0, 0)) :: l) ((w.alloc (.cells #[.int .i64 0, .int .i64 0, .int .i64 0, .int .i64 0, .string ⟨#[]⟩, .int .i64 0, .int .i64 0, .slice none 0 0, .int .u32 0, .int .i64 0, .slice none 0 0] 45)).drewN n)) := hid fun n => h.quiet (stabC (blkP_stable _ _) (stabC (rowP_stable _ _ _ _ _) (stabC (rowP_stable _ _ _ _ _) (stabC (blkP_stable _ _) HL.out)))) (below_drewN (Below.refl _ _) n)
  have hC := Sts.snkC h
  have k5 := hC.k5; have k6 := hC.k6; have k7 := hC.k7; have k9 := hC.k9; have k19 := hC.k19; have k20 := hC.k20; have k23 := hC.k23
  (try dsimp only at k5 k6 k7 k9 k19 k20 k23)
  clear h hz hs hls hl hC
  rw [hd] at k23
  rw [h2] at HA
  clear hT hd
  go_enter Try.func92, Try.ntmps92
  go_wp2_with fail
  go_quiet ((go_at_call 91; exact Calls.quiet_of ((HA.out _).mono fun _ _ hh => ⟨hh.1, 0, hh.2.symm⟩)))
  go_wp2_with (first | (refine wpList_agg (HN.out _) (stabC (snkP_stable _ _) HL.out) rfl (.tmp 2) (.tmp 39) 45 rfl zeroPdu rfl rfl sizePdu rfl rfl ?_; intro w3 hz; have HF := hid hz; clear hz))
  exact post_cell2 HF.out Try.results92 rfl rfl (ldPdu rfl HF.out) (.bool false) rfl ⟨rfl, HF.out.tail⟩
set_option maxRecDepth 100000 in
set_option maxHeartbeats 2000000 in
theorem cRepNo1 (hd : s.don = false) (hT : 0 ≤ s.timer + s.timeout ∧ s.timer + s.timeout < 4611686018427387904) (h2 : (s.cls == 2) = true) (he : s.ended = true) : Calls Try.prog 92 #[.pointer (some ⟨q, 0, none⟩)] w fun e w' => e = .returned (.tuple #[.agg zeroPdu, .bool false]) ∧ Sts W (snkP q s :: l) w' := by
  have hwr : IntKind.i64.wrap (s.timer + s.timeout) = s.timer + s.timeout := by rw [IntKind.wrap_i64]; omega
  have hls : ∀ B ∈ snkP q s :: l, Stable B := stabC (snkP_stable _ _) hl
  have hz : Sts W (blkP w.heap.size (.cells zeroPdu 45 (0, 0)) :: snkP q s :: l) (w.alloc (.cells #[.int .i64 0, .int .i64 0, .int .i64 0, .int .i64 0, .string ⟨#[]⟩, .int .i64 0, .int .i64 0, .slice none 0 0, .int .u32 0, .int .i64 0, .slice none 0 0] 45)) := hs.alloc hls (.cells zeroPdu 45 (0, 0))
  have HN : Hid (∀ n, Sts W (blkP w.heap.size (.cells zeroPdu 45 (0, 0)) :: snkP q s :: l) ((w.alloc (.cells #[.int .i64 0, .int .i64 0, .int .i64 0, .int .i64 0, .string ⟨#[]⟩, .int .i64 0, .int .i64 0, .slice none 0 0, .int .u32 0, .int .i64 0, .slice none 0 0] 45)).drewN n)) := hid fun n => hz.quiet (stabC (blkP_stable _ _) hls) (below_drewN (Below.refl _ _) n)
  have HA : Hid (∀ n, Calls Try.prog 91 #[.pointer (some ⟨q, 0, none⟩)] ((w.alloc (.cells #[.int .i64 0, .int .i64 0, .int .i64 0, .int .i64 0, .string ⟨#[]⟩, .int .i64 0, .int .i64 0, .slice none 0 0, .int .u32 0, .int .i64 0, .slice none 0 0] 45)).drewN n) fun e w' => e = .returned (.bool (s.cls == 2)) ∧ (w.alloc (.cells #[.int .i64 0, .int .i64 0, .int .i64 0, .int .i64 0, .string ⟨#[]⟩, .int .i64 0, .int .i64 0, .slice none 0 0, .int .u32 0, .int .i64 0, .slice none 0 0] 45)).drewN n = w') := hid fun n => cAckd q s (HN.out n).swap
  obtain ⟨dv, gv, h⟩ := Sts.openSnk hz.swap
  have HS := hid h
  have HL := hid hl
  have HSN : Hid (∀ n, Sts W (blkP q (.cells ((s).cells dv gv) 109 (0, 0)) :: rowP 5 1 dv (s).data.length (u8s (s).data) :: rowP 81 2 gv (s).got.length (Fil.rcells (s).got) :: blkP w.heap.size (.cells zeroPdu 45 (0, 0)) :: l) ((w.alloc (.cells #[.int .i64 0, .int .i64 0, .int .i64 0, .int .i64 0, .string ⟨#[]⟩, .int .i64 0, .int .i64 0, .slice none 0 0, .int .u32 0, .int .i64 0, .slice none 0 0] 45)).drewN n)) := hid fun n => h.quiet (stabC (blkP_stable _ _) (stabC (rowP_stable _ _ _ _ _) (stabC (rowP_stable _ _ _ _ _) (stabC (blkP_stable _ _) HL.out)))) (below_drewN (Below.refl _ _) n)
  have hC := Sts.snkC h
  have k5 := hC.k5; have k6 := hC.k6; have k7 := hC.k7; have k9 := hC.k9; have k19 := hC.k19; have k20 := hC.k20; have k23 := hC.k23
  (try dsimp only at k5 k6 k7 k9 k19 k20 k23)
  clear h hz hs hls hl hC
  rw [hd] at k23
  rw [he] at k9
  clear he
  rw [h2] at HA
  clear hT hd
  go_enter Try.func92, Try.ntmps92
  go_wp2_with fail
  go_quiet ((go_at_call 91; exact Calls.quiet_of ((HA.out _).mono fun _ _ hh => ⟨hh.1, 0, hh.2.symm⟩)))
  go_wp2_with (first | (refine wpList_agg (HN.out _) (stabC (snkP_stable _ _) HL.out) rfl (.tmp 2) (.tmp 39) 45 rfl zeroPdu rfl rfl sizePdu rfl rfl ?_; intro w3 hz; have HF := hid hz; clear hz))
  exact post_cell2 HF.out Try.results92 rfl rfl (ldPdu rfl HF.out) (.bool false) rfl ⟨rfl, HF.out.tail⟩
set_option maxRecDepth 100000 in
set_option maxHeartbeats 2000000 in
theorem cRepNo2 (hd : s.don = false) (hT : 0 ≤ s.timer + s.timeout ∧ s.timer + s.timeout < 4611686018427387904) (h2 : (s.cls == 2) = true) (he : s.ended = false) (ht : decide (s.now < s.timer + s.timeout) = true) : Calls Try.prog 92 #[.pointer (some ⟨q, 0, none⟩)] w fun e w' => e = .returned (.tuple #[.agg zeroPdu, .bool false]) ∧ Sts W (snkP q s :: l) w' := by
  have hwr : IntKind.i64.wrap (s.timer + s.timeout) = s.timer + s.timeout := by rw [IntKind.wrap_i64]; omega
  have hls : ∀ B ∈ snkP q s :: l, Stable B := stabC (snkP_stable _ _) hl
  have hz : Sts W (blkP w.heap.size (.cells zeroPdu 45 (0, 0)) :: snkP q s :: l) (w.alloc (.cells #[.int .i64 0, .int .i64 0, .int .i64 0, .int .i64 0, .string ⟨#[]⟩, .int .i64 0, .int .i64 0, .slice none 0 0, .int .u32 0, .int .i64 0, .slice none 0 0] 45)) := hs.alloc hls (.cells zeroPdu 45 (0, 0))
  have HN : Hid (∀ n, Sts W (blkP w.heap.size (.cells zeroPdu 45 (0, 0)) :: snkP q s :: l) ((w.alloc (.cells #[.int .i64 0, .int .i64 0, .int .i64 0, .int .i64 0, .string ⟨#[]⟩, .int .i64 0, .int .i64 0, .slice none 0 0, .int .u32 0, .int .i64 0, .slice none 0 0] 45)).drewN n)) := hid fun n => hz.quiet (stabC (blkP_stable _ _) hls) (below_drewN (Below.refl _ _) n)
  have HA : Hid (∀ n, Calls Try.prog 91 #[.pointer (some ⟨q, 0, none⟩)] ((w.alloc (.cells #[.int .i64 0, .int .i64 0, .int .i64 0, .int .i64 0, .string ⟨#[]⟩, .int .i64 0, .int .i64 0, .slice none 0 0, .int .u32 0, .int .i64 0, .slice none 0 0] 45)).drewN n) fun e w' => e = .returned (.bool (s.cls == 2)) ∧ (w.alloc (.cells #[.int .i64 0, .int .i64 0, .int .i64 0, .int .i64 0, .string ⟨#[]⟩, .int .i64 0, .int .i64 0, .slice none 0 0, .int .u32 0, .int .i64 0, .slice none 0 0] 45)).drewN n = w') := hid fun n => cAckd q s (HN.out n).swap
  obtain ⟨dv, gv, h⟩ := Sts.openSnk hz.swap
  have HS := hid h
  have HL := hid hl
  have HSN : Hid (∀ n, Sts W (blkP q (.cells ((s).cells dv gv) 109 (0, 0)) :: rowP 5 1 dv (s).data.length (u8s (s).data) :: rowP 81 2 gv (s).got.length (Fil.rcells (s).got) :: blkP w.heap.size (.cells zeroPdu 45 (0, 0)) :: l) ((w.alloc (.cells #[.int .i64 0, .int .i64 0, .int .i64 0, .int .i64 0, .string ⟨#[]⟩, .int .i64 0, .int .i64 0, .slice none 0 0, .int .u32 0, .int .i64 0, .slice none 0 0] 45)).drewN n)) := hid fun n => h.quiet (stabC (blkP_stable _ _) (stabC (rowP_stable _ _ _ _ _) (stabC (rowP_stable _ _ _ _ _) (stabC (blkP_stable _ _) HL.out)))) (below_drewN (Below.refl _ _) n)
  have hC := Sts.snkC h
  have k5 := hC.k5; have k6 := hC.k6; have k7 := hC.k7; have k9 := hC.k9; have k19 := hC.k19; have k20 := hC.k20; have k23 := hC.k23
  (try dsimp only at k5 k6 k7 k9 k19 k20 k23)
  clear h hz hs hls hl hC
  rw [hd] at k23
  rw [he] at k9
  clear he
  rw [h2] at HA
  clear hT hd
  go_enter Try.func92, Try.ntmps92
  go_wp2_with fail
  go_quiet ((go_at_call 91; exact Calls.quiet_of ((HA.out _).mono fun _ _ hh => ⟨hh.1, 0, hh.2.symm⟩)))
  go_wp2_with (first | (refine wpList_agg (HN.out _) (stabC (snkP_stable _ _) HL.out) rfl (.tmp 2) (.tmp 39) 45 rfl zeroPdu rfl rfl sizePdu rfl rfl ?_; intro w3 hz; have HF := hid hz; clear hz))
  exact post_cell2 HF.out Try.results92 rfl rfl (ldPdu rfl HF.out) (.bool false) rfl ⟨rfl, HF.out.tail⟩
set_option maxRecDepth 100000 in
set_option maxHeartbeats 2000000 in
theorem cRepEnd (hd : s.don = false) (hT : 0 ≤ s.timer + s.timeout ∧ s.timer + s.timeout < 4611686018427387904) (h2 : (s.cls == 2) = true) (he : s.ended = false) (ht : decide (s.now < s.timer + s.timeout) = false) (hr : decide (s.retries ≤ s.tries) = true) : Calls Try.prog 92 #[.pointer (some ⟨q, 0, none⟩)] w fun e w' => e = .returned (.tuple #[.agg zeroPdu, .bool false]) ∧ Sts W (snkP q { s with ended := true } :: l) w' := by
  have hwr : IntKind.i64.wrap (s.timer + s.timeout) = s.timer + s.timeout := by rw [IntKind.wrap_i64]; omega
  have hls : ∀ B ∈ snkP q s :: l, Stable B := stabC (snkP_stable _ _) hl
  have hz : Sts W (blkP w.heap.size (.cells zeroPdu 45 (0, 0)) :: snkP q s :: l) (w.alloc (.cells #[.int .i64 0, .int .i64 0, .int .i64 0, .int .i64 0, .string ⟨#[]⟩, .int .i64 0, .int .i64 0, .slice none 0 0, .int .u32 0, .int .i64 0, .slice none 0 0] 45)) := hs.alloc hls (.cells zeroPdu 45 (0, 0))
  have HN : Hid (∀ n, Sts W (blkP w.heap.size (.cells zeroPdu 45 (0, 0)) :: snkP q s :: l) ((w.alloc (.cells #[.int .i64 0, .int .i64 0, .int .i64 0, .int .i64 0, .string ⟨#[]⟩, .int .i64 0, .int .i64 0, .slice none 0 0, .int .u32 0, .int .i64 0, .slice none 0 0] 45)).drewN n)) := hid fun n => hz.quiet (stabC (blkP_stable _ _) hls) (below_drewN (Below.refl _ _) n)
  have HA : Hid (∀ n, Calls Try.prog 91 #[.pointer (some ⟨q, 0, none⟩)] ((w.alloc (.cells #[.int .i64 0, .int .i64 0, .int .i64 0, .int .i64 0, .string ⟨#[]⟩, .int .i64 0, .int .i64 0, .slice none 0 0, .int .u32 0, .int .i64 0, .slice none 0 0] 45)).drewN n) fun e w' => e = .returned (.bool (s.cls == 2)) ∧ (w.alloc (.cells #[.int .i64 0, .int .i64 0, .int .i64 0, .int .i64 0, .string ⟨#[]⟩, .int .i64 0, .int .i64 0, .slice none 0 0, .int .u32 0, .int .i64 0, .slice none 0 0] 45)).drewN n = w') := hid fun n => cAckd q s (HN.out n).swap
  obtain ⟨dv, gv, h⟩ := Sts.openSnk hz.swap
  have HS := hid h
  have HL := hid hl
  have HSN : Hid (∀ n, Sts W (blkP q (.cells ((s).cells dv gv) 109 (0, 0)) :: rowP 5 1 dv (s).data.length (u8s (s).data) :: rowP 81 2 gv (s).got.length (Fil.rcells (s).got) :: blkP w.heap.size (.cells zeroPdu 45 (0, 0)) :: l) ((w.alloc (.cells #[.int .i64 0, .int .i64 0, .int .i64 0, .int .i64 0, .string ⟨#[]⟩, .int .i64 0, .int .i64 0, .slice none 0 0, .int .u32 0, .int .i64 0, .slice none 0 0] 45)).drewN n)) := hid fun n => h.quiet (stabC (blkP_stable _ _) (stabC (rowP_stable _ _ _ _ _) (stabC (rowP_stable _ _ _ _ _) (stabC (blkP_stable _ _) HL.out)))) (below_drewN (Below.refl _ _) n)
  have hC := Sts.snkC h
  have k5 := hC.k5; have k6 := hC.k6; have k7 := hC.k7; have k9 := hC.k9; have k19 := hC.k19; have k20 := hC.k20; have k23 := hC.k23
  (try dsimp only at k5 k6 k7 k9 k19 k20 k23)
  clear h hz hs hls hl hC
  rw [hd] at k23
  rw [he] at k9
  rw [h2] at HA
  clear hT hd he
  go_enter Try.func92, Try.ntmps92
  go_wp2_with fail
  go_quiet ((go_at_call 91; exact Calls.quiet_of ((HA.out _).mono fun _ _ hh => ⟨hh.1, 0, hh.2.symm⟩)))
  go_wp2_with fail
  go_quiet (fail)
  go_wp2_with (first | (refine wpList_cell (HSN.out _) (stabC (rowP_stable _ _ _ _ _) (stabC (rowP_stable _ _ _ _ _) (stabC (blkP_stable _ _) HL.out))) rfl (.tmp 52) (.const (.bool true)) 4 rfl 9 (.bool true) rfl rfl szBoolK (show 9 < 25 by decide) rfl ?_; intro w1 hz; replace hz : Sts W (blkP q (.cells (({ s with ended := true }).cells dv gv) 109 (0, 0)) :: rowP 5 1 dv (s).data.length (u8s (s).data) :: rowP 81 2 gv (s).got.length (Fil.rcells (s).got) :: blkP w.heap.size (.cells zeroPdu 45 (0, 0)) :: l) w1 := hz; have H1 := hid hz; have H2 := hid ((Sts.shutSnk (s := { s with ended := true }) (dv := dv) (gv := gv) hz).swap); clear hz) | (refine wpList_agg H2.out (stabC (snkP_stable _ _) HL.out) rfl (.tmp 2) (.tmp 53) 45 rfl zeroPdu rfl rfl sizePdu rfl rfl ?_; intro w3 hz; have HF := hid hz; clear hz))
  exact post_cell2 HF.out Try.results92 rfl rfl (ldPdu rfl HF.out) (.bool false) rfl ⟨rfl, HF.out.tail⟩
set_option maxRecDepth 100000 in
set_option maxHeartbeats 2000000 in
theorem cRepAgain2 (hd : s.don = false) (hT : 0 ≤ s.timer + s.timeout ∧ s.timer + s.timeout < 4611686018427387904) (h2 : (s.cls == 2) = true) (he : s.ended = false) (ht : decide (s.now < s.timer + s.timeout) = false) (hr : decide (s.retries ≤ s.tries) = false) (hy : 0 ≤ s.tries ∧ s.tries < 1000000) : Calls Try.prog 92 #[.pointer (some ⟨q, 0, none⟩)] w fun e w' => e = .returned (.tuple #[.agg s.reportP.cells, .bool true]) ∧ Sts W (snkP q { s with tries := s.tries + 1, timer := s.now } :: l) w' := by
  have hwy : IntKind.i64.wrap (s.tries + 1) = s.tries + 1 := by rw [IntKind.wrap_i64]; omega
  have hwr : IntKind.i64.wrap (s.timer + s.timeout) = s.timer + s.timeout := by rw [IntKind.wrap_i64]; omega
  have hls : ∀ B ∈ snkP q s :: l, Stable B := stabC (snkP_stable _ _) hl
  have hz : Sts W (blkP w.heap.size (.cells zeroPdu 45 (0, 0)) :: snkP q s :: l) (w.alloc (.cells #[.int .i64 0, .int .i64 0, .int .i64 0, .int .i64 0, .string ⟨#[]⟩, .int .i64 0, .int .i64 0, .slice none 0 0, .int .u32 0, .int .i64 0, .slice none 0 0] 45)) := hs.alloc hls (.cells zeroPdu 45 (0, 0))
  have HN : Hid (∀ n, Sts W (blkP w.heap.size (.cells zeroPdu 45 (0, 0)) :: snkP q s :: l) ((w.alloc (.cells #[.int .i64 0, .int .i64 0, .int .i64 0, .int .i64 0, .string ⟨#[]⟩, .int .i64 0, .int .i64 0, .slice none 0 0, .int .u32 0, .int .i64 0, .slice none 0 0] 45)).drewN n)) := hid fun n => hz.quiet (stabC (blkP_stable _ _) hls) (below_drewN (Below.refl _ _) n)
  have HA : Hid (∀ n, Calls Try.prog 91 #[.pointer (some ⟨q, 0, none⟩)] ((w.alloc (.cells #[.int .i64 0, .int .i64 0, .int .i64 0, .int .i64 0, .string ⟨#[]⟩, .int .i64 0, .int .i64 0, .slice none 0 0, .int .u32 0, .int .i64 0, .slice none 0 0] 45)).drewN n) fun e w' => e = .returned (.bool (s.cls == 2)) ∧ (w.alloc (.cells #[.int .i64 0, .int .i64 0, .int .i64 0, .int .i64 0, .string ⟨#[]⟩, .int .i64 0, .int .i64 0, .slice none 0 0, .int .u32 0, .int .i64 0, .slice none 0 0] 45)).drewN n = w') := hid fun n => cAckd q s (HN.out n).swap
  obtain ⟨dv, gv, h⟩ := Sts.openSnk hz.swap
  have HS := hid h
  have HL := hid hl
  have HSN : Hid (∀ n, Sts W (blkP q (.cells ((s).cells dv gv) 109 (0, 0)) :: rowP 5 1 dv (s).data.length (u8s (s).data) :: rowP 81 2 gv (s).got.length (Fil.rcells (s).got) :: blkP w.heap.size (.cells zeroPdu 45 (0, 0)) :: l) ((w.alloc (.cells #[.int .i64 0, .int .i64 0, .int .i64 0, .int .i64 0, .string ⟨#[]⟩, .int .i64 0, .int .i64 0, .slice none 0 0, .int .u32 0, .int .i64 0, .slice none 0 0] 45)).drewN n)) := hid fun n => h.quiet (stabC (blkP_stable _ _) (stabC (rowP_stable _ _ _ _ _) (stabC (rowP_stable _ _ _ _ _) (stabC (blkP_stable _ _) HL.out)))) (below_drewN (Below.refl _ _) n)
  have hC := Sts.snkC h
  have k5 := hC.k5; have k6 := hC.k6; have k7 := hC.k7; have k9 := hC.k9; have k19 := hC.k19; have k20 := hC.k20; have k23 := hC.k23
  (try dsimp only at k5 k6 k7 k9 k19 k20 k23)
  clear h hz hs hls hl hC
  rw [hd] at k23
  rw [he] at k9
  rw [h2] at HA
  clear hT hd he
  go_enter Try.func92, Try.ntmps92
  go_wp2_with fail
  go_quiet ((go_at_call 91; exact Calls.quiet_of ((HA.out _).mono fun _ _ hh => ⟨hh.1, 0, hh.2.symm⟩)))
  go_wp2_with fail
  go_quiet (fail)
  go_wp2_with (first | (refine wpList_cell (HSN.out _) (stabC (rowP_stable _ _ _ _ _) (stabC (rowP_stable _ _ _ _ _) (stabC (blkP_stable _ _) HL.out))) rfl (.tmp 60) (.tmp 58) 3 rfl 20 (.int .i64 (s.tries + 1)) rfl rfl szIntK (show 20 < 25 by decide) rfl ?_; intro w1 hz; replace hz : Sts W (blkP q (.cells (({ s with tries := s.tries + 1 }).cells dv gv) 109 (0, 0)) :: rowP 5 1 dv (s).data.length (u8s (s).data) :: rowP 81 2 gv (s).got.length (Fil.rcells (s).got) :: blkP w.heap.size (.cells zeroPdu 45 (0, 0)) :: l) w1 := hz; have H1 := hid hz; have k7 := (Sts.snkC hz).k7; (try dsimp only at k7); clear hz) | (refine wpList_cell H1.out (stabC (rowP_stable _ _ _ _ _) (stabC (rowP_stable _ _ _ _ _) (stabC (blkP_stable _ _) HL.out))) rfl (.tmp 67) (.tmp 65) 3 rfl 19 (.int .i64 s.now) rfl rfl szIntK (show 19 < 25 by decide) rfl ?_; intro w2 hz; replace hz : Sts W (blkP q (.cells (({ s with tries := s.tries + 1, timer := s.now }).cells dv gv) 109 (0, 0)) :: rowP 5 1 dv (s).data.length (u8s (s).data) :: rowP 81 2 gv (s).got.length (Fil.rcells (s).got) :: blkP w.heap.size (.cells zeroPdu 45 (0, 0)) :: l) w2 := hz; have H2 := hid hz; have HR := hid (cReportK (stabC (blkP_stable _ _) HL.out) q { s with tries := s.tries + 1, timer := s.now } (Sts.shutSnk (s := { s with tries := s.tries + 1, timer := s.now }) (dv := dv) (gv := gv) hz)); clear hz) | (go_at_call 119; refine HR.out.mono ?_; rintro e w4 ⟨rfl, hw⟩; have H3 := hid hw.swap; clear hw) | (refine wpList_agg H3.out (stabC (snkP_stable _ _) HL.out) rfl (.tmp 2) (.tmp 69) 45 rfl s.reportP.cells rfl rfl sizePdu rfl rfl ?_; intro w5 hz; have HF := hid hz; clear hz))
  exact post_cell2 HF.out Try.results92 rfl rfl (ldPdu rfl HF.out) (.bool true) rfl ⟨rfl, HF.out.tail⟩
theorem cRepK (hT : 0 ≤ s.timer + s.timeout ∧ s.timer + s.timeout < 4611686018427387904) (hy : 0 ≤ s.tries ∧ s.tries < 1000000) : Calls Try.prog 92 #[.pointer (some ⟨q, 0, none⟩)] w fun e w' => e = .returned (.tuple #[.agg s.repP.cells, .bool s.repV.2]) ∧ Sts W (snkP q s.repV.1 :: l) w' := by
  unfold Fil.Snk.repP
  have hz : (({} : Fil.Pdu)).cells = zeroPdu := rfl
  generalize hv : s.repV = v
  unfold Fil.Snk.repV at hv
  cases hd : s.don with
  | true => rw [if_pos hd] at hv; subst hv; exact cRepDon hl q s hs hd
  | false =>
    rw [if_neg (by rw [hd]; simp)] at hv
    cases h2 : (s.cls == 2) with
    | false =>
      rw [if_pos (Or.inl (by simpa using h2))] at hv; subst hv
      simp only [Bool.false_eq_true, if_false, hz]
      exact cRepNo0 hl q s hs hd hT h2
    | true =>
      cases he : s.ended with
      | true =>
        rw [if_pos (Or.inr (Or.inl he))] at hv; subst hv
        simp only [Bool.false_eq_true, if_false, hz]
        exact cRepNo1 hl q s hs hd hT h2 he
      | false =>
        cases ht : decide (s.now < s.timer + s.timeout) with
        | true =>
          rw [if_pos (Or.inr (Or.inr (of_decide_eq_true ht)))] at hv; subst hv
          simp only [Bool.false_eq_true, if_false, hz]
          exact cRepNo2 hl q s hs hd hT h2 he ht
        | false =>
          have ht' := of_decide_eq_false ht
          rw [if_neg (by simp only [not_or]; exact ⟨by simpa using h2, by rw [he]; simp, ht'⟩)] at hv
          cases hr : decide (s.retries ≤ s.tries) with
          | true =>
            rw [if_pos (of_decide_eq_true hr)] at hv; subst hv
            simp only [Bool.false_eq_true, if_false, hz]
            exact cRepEnd hl q s hs hd hT h2 he ht hr
          | false =>
            rw [if_neg (of_decide_eq_false hr)] at hv; subst hv
            exact cRepAgain2 hl q s hs hd hT h2 he ht hr hy
end
end Go.Proofs.Ytfjadhkhmhnccaa
