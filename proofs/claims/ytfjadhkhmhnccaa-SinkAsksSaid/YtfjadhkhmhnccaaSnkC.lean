/- The receiving end: metadata, finish, check. -/
import Derived.Test.YtfjadhkhmhnccaaSnkB
import Derived.Test.YtfjadhkhmhnccaaPduValid
set_option linter.unusedVariables false
set_option linter.unusedSimpArgs false
namespace Fil
open Go
def Snk.metaBad (s : Snk) (p : Pdu) : Bool := (s.named && (!(s.name.toList == p.name.toList) || s.size != p.size)) || (s.fin && s.endSize != p.size) || decide (lastV s.got > p.size)
def Snk.mdV (s : Snk) (p : Pdu) : Snk × Int := if s.metaBad p = true then (s, 4) else if s.named = true then (s, 0) else ({ s with named := true, name := p.name, size := p.size }.prog, 0)
def Snk.finBad (s : Snk) (p : Pdu) : Bool := (s.fin && (s.endSize != p.size || ((s.sum : Int) != (p.sum : Int)))) || (s.named && s.size != p.size) || decide (lastV s.got > p.size)
def Snk.finV (s : Snk) (p : Pdu) : Snk × Int := if (p.code != 0) = true then ({ s with phase := 4, susp := false, nak := false, don := false }, 0) else if s.finBad p = true then (s, 4) else if s.fin = true then (s, 0) else ({ s with fin := true, endSize := p.size, sum := p.sum, nak := (s.cls == 2) }.prog, 0)
end Fil
namespace Go.Proofs.Ytfjadhkhmhnccaa
open Go.RowKit Go.Proofs.Num
theorem Sts.pduC {W w : World} {l : List HProp} {b : Nat} {p : Fil.Pdu} (hy : Sts W (blkP b (.cells p.cells 45 (0, 0)) :: l) w) : PduC w b p :=
  ⟨(Sts.boxCell hy 0 _ rfl).1, (Sts.boxCell hy 1 _ rfl).1, (Sts.boxCell hy 2 _ rfl).1, (Sts.boxCell hy 3 _ rfl).1, (Sts.boxCell hy 4 _ rfl).1, (Sts.boxCell hy 5 _ rfl).1, (Sts.boxCell hy 6 _ rfl).1, (Sts.boxCell hy 7 _ rfl).1, (Sts.boxCell hy 8 _ rfl).1, (Sts.boxCell hy 9 _ rfl).1, (Sts.boxCell hy 10 _ rfl).1⟩
section
variable {W w : World} {l : List HProp} (hl : ∀ B ∈ l, Stable B) (q : Nat) (s : Fil.Snk) (p : Fil.Pdu) (hs : Sts W (snkP q s :: l) w)
include hl hs
set_option maxRecDepth 100000 in
set_option maxHeartbeats 1000000 in
theorem cMetaBad (hn : s.got.length < 1000000) (hb : (s.named = true ∧ (s.name.toList == p.name.toList) = false) ∨ (s.named = true ∧ (s.name.toList == p.name.toList) = true ∧ (s.size != p.size) = true) ∨ (s.named = false ∧ s.fin = true ∧ (s.endSize != p.size) = true) ∨ (s.named = true ∧ (s.name.toList == p.name.toList) = true ∧ (s.size != p.size) = false ∧ s.fin = true ∧ (s.endSize != p.size) = true) ∨ (s.named = false ∧ s.fin = false ∧ decide (Fil.lastV s.got > p.size) = true) ∨ (s.named = false ∧ s.fin = true ∧ (s.endSize != p.size) = false ∧ decide (Fil.lastV s.got > p.size) = true) ∨ (s.named = true ∧ (s.name.toList == p.name.toList) = true ∧ (s.size != p.size) = false ∧ s.fin = false ∧ decide (Fil.lastV s.got > p.size) = true) ∨ (s.named = true ∧ (s.name.toList == p.name.toList) = true ∧ (s.size != p.size) = false ∧ s.fin = true ∧ (s.endSize != p.size) = false ∧ decide (Fil.lastV s.got > p.size) = true)) : Calls Try.prog 114 #[.pointer (some ⟨q, 0, none⟩), .agg p.cells] w fun e w' => e = .returned (.int .i64 4) ∧ Sts W (snkP q s :: l) w' := by
  rw [show p.cells = #[.int .i64 p.kind, .int .i64 p.src, .int .i64 p.num, .int .i64 p.cls, .string p.name, .int .i64 p.size, .int .i64 p.off, .slice p.da p.data.length p.dc, .int .u32 (p.sum : Nat), .int .i64 p.code, .slice p.ga p.gaps.length p.gc] from rfl]
  have hls : ∀ B ∈ snkP q s :: l, Stable B := stabC (snkP_stable _ _) hl
  have hz : Sts W (blkP w.heap.size (.cells p.cells 45 (0, 0)) :: snkP q s :: l) (w.alloc (.cells #[.int .i64 p.kind, .int .i64 p.src, .int .i64 p.num, .int .i64 p.cls, .string p.name, .int .i64 p.size, .int .i64 p.off, .slice p.da p.data.length p.dc, .int .u32 (p.sum : Nat), .int .i64 p.code, .slice p.ga p.gaps.length p.gc] 45)) := hs.alloc hls (.cells p.cells 45 (0, 0))
  have hbl : ∀ B ∈ blkP w.heap.size (.cells p.cells 45 (0, 0)) :: l, Stable B := stabC (blkP_stable _ _) hl
  have hsb : ∀ B ∈ blkP w.heap.size (.cells p.cells 45 (0, 0)) :: snkP q s :: l, Stable B := stabC (blkP_stable _ _) hls
  have HN : Hid (∀ n, Sts W (snkP q s :: blkP w.heap.size (.cells p.cells 45 (0, 0)) :: l) ((w.alloc (.cells #[.int .i64 p.kind, .int .i64 p.src, .int .i64 p.num, .int .i64 p.cls, .string p.name, .int .i64 p.size, .int .i64 p.off, .slice p.da p.data.length p.dc, .int .u32 (p.sum : Nat), .int .i64 p.code, .slice p.ga p.gaps.length p.gc] 45)).drewN n)) := hid fun n => (hz.quiet hsb (below_drewN (Below.refl _ _) n)).swap
  have HLS : Hid (∀ n, Calls Try.prog 86 #[.pointer (some ⟨q, 0, none⟩)] ((w.alloc (.cells #[.int .i64 p.kind, .int .i64 p.src, .int .i64 p.num, .int .i64 p.cls, .string p.name, .int .i64 p.size, .int .i64 p.off, .slice p.da p.data.length p.dc, .int .u32 (p.sum : Nat), .int .i64 p.code, .slice p.ga p.gaps.length p.gc] 45)).drewN n) fun e w' => e = .returned (.int .i64 (Fil.lastV s.got)) ∧ ∃ m, w' = ((w.alloc (.cells #[.int .i64 p.kind, .int .i64 p.src, .int .i64 p.num, .int .i64 p.cls, .string p.name, .int .i64 p.size, .int .i64 p.off, .slice p.da p.data.length p.dc, .int .u32 (p.sum : Nat), .int .i64 p.code, .slice p.ga p.gaps.length p.gc] 45)).drewN n).drewN m) := hid fun n => cLastK q s (HN.out n) hn
  obtain ⟨dv, gv, h⟩ := Sts.openSnk hz.swap
  have hC := Sts.snkC h
  have k11 := hC.k11; have k12 := hC.k12; have k13 := hC.k13; have k14 := hC.k14; have k15 := hC.k15
  (try dsimp only at k11 k12 k13 k14 k15)
  have hP := Sts.pduC hz
  have p4 := hP.c4; have p5 := hP.c5
  have HNO : Hid (∀ n, Sts W (blkP q (.cells ((s).cells dv gv) 109 (0, 0)) :: rowP 5 1 dv (s).data.length (u8s (s).data) :: rowP 81 2 gv (s).got.length (Fil.rcells (s).got) :: blkP w.heap.size (.cells p.cells 45 (0, 0)) :: l) ((w.alloc (.cells #[.int .i64 p.kind, .int .i64 p.src, .int .i64 p.num, .int .i64 p.cls, .string p.name, .int .i64 p.size, .int .i64 p.off, .slice p.da p.data.length p.dc, .int .u32 (p.sum : Nat), .int .i64 p.code, .slice p.ga p.gaps.length p.gc] 45)).drewN n)) := hid fun n => h.quiet (stabC (blkP_stable _ _) (stabC (rowP_stable _ _ _ _ _) (stabC (rowP_stable _ _ _ _ _) hbl))) (below_drewN (Below.refl _ _) n)
  have HL := hid hl
  clear hC hP h hz hs hls hbl hsb hl hn
  rcases hb with ⟨c1, c2⟩ | ⟨c1, c2, c3⟩ | ⟨c1, c4, c5⟩ | ⟨c1, c2, c3, c4, c5⟩ | ⟨c1, c4, c6⟩ | ⟨c1, c4, c5, c6⟩ | ⟨c1, c2, c3, c4, c6⟩ | ⟨c1, c2, c3, c4, c5, c6⟩
  all_goals
    (try rw [c1] at k11)
    (try rw [c4] at k14)
    (try clear c1)
    (try clear c4)
    go_enter Try.func114, Try.ntmps114
    go_wp2_with fail
    go_quiet ((go_at_call 86; exact Calls.quiet_of (HLS.out _)))
    go_wp2_with fail
    go_ret
    exact ⟨rfl, (HN.out _).swap.tail⟩
set_option maxRecDepth 100000 in
set_option maxHeartbeats 1000000 in
theorem cMetaOkT (hn : s.got.length < 1000000) (hb : (s.named = true ∧ (s.name.toList == p.name.toList) = true ∧ (s.size != p.size) = false ∧ s.fin = false ∧ decide (Fil.lastV s.got > p.size) = false) ∨ (s.named = true ∧ (s.name.toList == p.name.toList) = true ∧ (s.size != p.size) = false ∧ s.fin = true ∧ (s.endSize != p.size) = false ∧ decide (Fil.lastV s.got > p.size) = false)) : Calls Try.prog 114 #[.pointer (some ⟨q, 0, none⟩), .agg p.cells] w fun e w' => e = .returned (.int .i64 0) ∧ Sts W (snkP q s :: l) w' := by
  rw [show p.cells = #[.int .i64 p.kind, .int .i64 p.src, .int .i64 p.num, .int .i64 p.cls, .string p.name, .int .i64 p.size, .int .i64 p.off, .slice p.da p.data.length p.dc, .int .u32 (p.sum : Nat), .int .i64 p.code, .slice p.ga p.gaps.length p.gc] from rfl]
  have hls : ∀ B ∈ snkP q s :: l, Stable B := stabC (snkP_stable _ _) hl
  have hz : Sts W (blkP w.heap.size (.cells p.cells 45 (0, 0)) :: snkP q s :: l) (w.alloc (.cells #[.int .i64 p.kind, .int .i64 p.src, .int .i64 p.num, .int .i64 p.cls, .string p.name, .int .i64 p.size, .int .i64 p.off, .slice p.da p.data.length p.dc, .int .u32 (p.sum : Nat), .int .i64 p.code, .slice p.ga p.gaps.length p.gc] 45)) := hs.alloc hls (.cells p.cells 45 (0, 0))
  have hbl : ∀ B ∈ blkP w.heap.size (.cells p.cells 45 (0, 0)) :: l, Stable B := stabC (blkP_stable _ _) hl
  have hsb : ∀ B ∈ blkP w.heap.size (.cells p.cells 45 (0, 0)) :: snkP q s :: l, Stable B := stabC (blkP_stable _ _) hls
  have HN : Hid (∀ n, Sts W (snkP q s :: blkP w.heap.size (.cells p.cells 45 (0, 0)) :: l) ((w.alloc (.cells #[.int .i64 p.kind, .int .i64 p.src, .int .i64 p.num, .int .i64 p.cls, .string p.name, .int .i64 p.size, .int .i64 p.off, .slice p.da p.data.length p.dc, .int .u32 (p.sum : Nat), .int .i64 p.code, .slice p.ga p.gaps.length p.gc] 45)).drewN n)) := hid fun n => (hz.quiet hsb (below_drewN (Below.refl _ _) n)).swap
  have HLS : Hid (∀ n, Calls Try.prog 86 #[.pointer (some ⟨q, 0, none⟩)] ((w.alloc (.cells #[.int .i64 p.kind, .int .i64 p.src, .int .i64 p.num, .int .i64 p.cls, .string p.name, .int .i64 p.size, .int .i64 p.off, .slice p.da p.data.length p.dc, .int .u32 (p.sum : Nat), .int .i64 p.code, .slice p.ga p.gaps.length p.gc] 45)).drewN n) fun e w' => e = .returned (.int .i64 (Fil.lastV s.got)) ∧ ∃ m, w' = ((w.alloc (.cells #[.int .i64 p.kind, .int .i64 p.src, .int .i64 p.num, .int .i64 p.cls, .string p.name, .int .i64 p.size, .int .i64 p.off, .slice p.da p.data.length p.dc, .int .u32 (p.sum : Nat), .int .i64 p.code, .slice p.ga p.gaps.length p.gc] 45)).drewN n).drewN m) := hid fun n => cLastK q s (HN.out n) hn
  obtain ⟨dv, gv, h⟩ := Sts.openSnk hz.swap
  have hC := Sts.snkC h
  have k11 := hC.k11; have k12 := hC.k12; have k13 := hC.k13; have k14 := hC.k14; have k15 := hC.k15
  (try dsimp only at k11 k12 k13 k14 k15)
  have hP := Sts.pduC hz
  have p4 := hP.c4; have p5 := hP.c5
  have HNO : Hid (∀ n, Sts W (blkP q (.cells ((s).cells dv gv) 109 (0, 0)) :: rowP 5 1 dv (s).data.length (u8s (s).data) :: rowP 81 2 gv (s).got.length (Fil.rcells (s).got) :: blkP w.heap.size (.cells p.cells 45 (0, 0)) :: l) ((w.alloc (.cells #[.int .i64 p.kind, .int .i64 p.src, .int .i64 p.num, .int .i64 p.cls, .string p.name, .int .i64 p.size, .int .i64 p.off, .slice p.da p.data.length p.dc, .int .u32 (p.sum : Nat), .int .i64 p.code, .slice p.ga p.gaps.length p.gc] 45)).drewN n)) := hid fun n => h.quiet (stabC (blkP_stable _ _) (stabC (rowP_stable _ _ _ _ _) (stabC (rowP_stable _ _ _ _ _) hbl))) (below_drewN (Below.refl _ _) n)
  have HL := hid hl
  clear hC hP h hz hs hls hbl hsb hl hn
  rcases hb with ⟨c1, c2, c3, c4, c6⟩ | ⟨c1, c2, c3, c4, c5, c6⟩
  all_goals
    (try rw [c1] at k11)
    (try rw [c4] at k14)
    (try clear c1)
    (try clear c4)
    go_enter Try.func114, Try.ntmps114
    go_wp2_with fail
    go_quiet ((go_at_call 86; exact Calls.quiet_of (HLS.out _)))
    go_wp2_with fail
    go_ret
    exact ⟨rfl, (HN.out _).swap.tail⟩
set_option maxRecDepth 100000 in
set_option maxHeartbeats 1000000 in
theorem cMetaOkN (hn : s.got.length < 1000000) (hb : (s.named = false ∧ s.fin = false ∧ decide (Fil.lastV s.got > p.size) = false) ∨ (s.named = false ∧ s.fin = true ∧ (s.endSize != p.size) = false ∧ decide (Fil.lastV s.got > p.size) = false)) : Calls Try.prog 114 #[.pointer (some ⟨q, 0, none⟩), .agg p.cells] w fun e w' => e = .returned (.int .i64 0) ∧ Sts W (snkP q (({ s with named := true, name := p.name, size := p.size }) : Fil.Snk).prog :: l) w' := by
  rw [show p.cells = #[.int .i64 p.kind, .int .i64 p.src, .int .i64 p.num, .int .i64 p.cls, .string p.name, .int .i64 p.size, .int .i64 p.off, .slice p.da p.data.length p.dc, .int .u32 (p.sum : Nat), .int .i64 p.code, .slice p.ga p.gaps.length p.gc] from rfl]
  have hls : ∀ B ∈ snkP q s :: l, Stable B := stabC (snkP_stable _ _) hl
  have hz : Sts W (blkP w.heap.size (.cells p.cells 45 (0, 0)) :: snkP q s :: l) (w.alloc (.cells #[.int .i64 p.kind, .int .i64 p.src, .int .i64 p.num, .int .i64 p.cls, .string p.name, .int .i64 p.size, .int .i64 p.off, .slice p.da p.data.length p.dc, .int .u32 (p.sum : Nat), .int .i64 p.code, .slice p.ga p.gaps.length p.gc] 45)) := hs.alloc hls (.cells p.cells 45 (0, 0))
  have hbl : ∀ B ∈ blkP w.heap.size (.cells p.cells 45 (0, 0)) :: l, Stable B := stabC (blkP_stable _ _) hl
  have hsb : ∀ B ∈ blkP w.heap.size (.cells p.cells 45 (0, 0)) :: snkP q s :: l, Stable B := stabC (blkP_stable _ _) hls
  have HN : Hid (∀ n, Sts W (snkP q s :: blkP w.heap.size (.cells p.cells 45 (0, 0)) :: l) ((w.alloc (.cells #[.int .i64 p.kind, .int .i64 p.src, .int .i64 p.num, .int .i64 p.cls, .string p.name, .int .i64 p.size, .int .i64 p.off, .slice p.da p.data.length p.dc, .int .u32 (p.sum : Nat), .int .i64 p.code, .slice p.ga p.gaps.length p.gc] 45)).drewN n)) := hid fun n => (hz.quiet hsb (below_drewN (Below.refl _ _) n)).swap
  have HLS : Hid (∀ n, Calls Try.prog 86 #[.pointer (some ⟨q, 0, none⟩)] ((w.alloc (.cells #[.int .i64 p.kind, .int .i64 p.src, .int .i64 p.num, .int .i64 p.cls, .string p.name, .int .i64 p.size, .int .i64 p.off, .slice p.da p.data.length p.dc, .int .u32 (p.sum : Nat), .int .i64 p.code, .slice p.ga p.gaps.length p.gc] 45)).drewN n) fun e w' => e = .returned (.int .i64 (Fil.lastV s.got)) ∧ ∃ m, w' = ((w.alloc (.cells #[.int .i64 p.kind, .int .i64 p.src, .int .i64 p.num, .int .i64 p.cls, .string p.name, .int .i64 p.size, .int .i64 p.off, .slice p.da p.data.length p.dc, .int .u32 (p.sum : Nat), .int .i64 p.code, .slice p.ga p.gaps.length p.gc] 45)).drewN n).drewN m) := hid fun n => cLastK q s (HN.out n) hn
  obtain ⟨dv, gv, h⟩ := Sts.openSnk hz.swap
  have hC := Sts.snkC h
  have k11 := hC.k11; have k12 := hC.k12; have k13 := hC.k13; have k14 := hC.k14; have k15 := hC.k15
  (try dsimp only at k11 k12 k13 k14 k15)
  have hP := Sts.pduC hz
  have p4 := hP.c4; have p5 := hP.c5
  have HNO : Hid (∀ n, Sts W (blkP q (.cells ((s).cells dv gv) 109 (0, 0)) :: rowP 5 1 dv (s).data.length (u8s (s).data) :: rowP 81 2 gv (s).got.length (Fil.rcells (s).got) :: blkP w.heap.size (.cells p.cells 45 (0, 0)) :: l) ((w.alloc (.cells #[.int .i64 p.kind, .int .i64 p.src, .int .i64 p.num, .int .i64 p.cls, .string p.name, .int .i64 p.size, .int .i64 p.off, .slice p.da p.data.length p.dc, .int .u32 (p.sum : Nat), .int .i64 p.code, .slice p.ga p.gaps.length p.gc] 45)).drewN n)) := hid fun n => h.quiet (stabC (blkP_stable _ _) (stabC (rowP_stable _ _ _ _ _) (stabC (rowP_stable _ _ _ _ _) hbl))) (below_drewN (Below.refl _ _) n)
  have HL := hid hl
  clear hC hP h hz hs hls hbl hsb hl hn
  rcases hb with ⟨c1, c4, c6⟩ | ⟨c1, c4, c5, c6⟩
  all_goals
    (try rw [c1] at k11)
    (try rw [c4] at k14)
    (try clear c1)
    (try clear c4)
    go_enter Try.func114, Try.ntmps114
    go_wp2_with fail
    go_quiet ((go_at_call 86; exact Calls.quiet_of (HLS.out _)))
    go_wp2_with (first | (refine wpList_cell (HNO.out _) (stabC (rowP_stable _ _ _ _ _) (stabC (rowP_stable _ _ _ _ _) (stabC (blkP_stable _ _) HL.out))) rfl (.tmp 56) (.const (.bool true)) 4 rfl 11 (.bool true) rfl rfl szBoolK (show 11 < 25 by decide) rfl ?_; intro w1 hz; replace hz : Sts W (blkP q (.cells (({ s with named := true }).cells dv gv) 109 (0, 0)) :: rowP 5 1 dv (s).data.length (u8s (s).data) :: rowP 81 2 gv (s).got.length (Fil.rcells (s).got) :: blkP w.heap.size (.cells p.cells 45 (0, 0)) :: l) w1 := hz; have H1 := hid hz; have hP := Sts.pduC hz.tail.tail.tail; have p4 := hP.c4; have p5 := hP.c5; clear hP; clear hz) | (refine wpList_cell H1.out (stabC (rowP_stable _ _ _ _ _) (stabC (rowP_stable _ _ _ _ _) (stabC (blkP_stable _ _) HL.out))) rfl (.tmp 61) (.tmp 59) 9 rfl 12 (.string p.name) rfl rfl szStrK (show 12 < 25 by decide) rfl ?_; intro w2 hz; replace hz : Sts W (blkP q (.cells (({ s with named := true, name := p.name }).cells dv gv) 109 (0, 0)) :: rowP 5 1 dv (s).data.length (u8s (s).data) :: rowP 81 2 gv (s).got.length (Fil.rcells (s).got) :: blkP w.heap.size (.cells p.cells 45 (0, 0)) :: l) w2 := hz; have H2 := hid hz; clear p4 p5; have hP := Sts.pduC hz.tail.tail.tail; have p5 := hP.c5; clear hP; clear hz) | (refine wpList_cell H2.out (stabC (rowP_stable _ _ _ _ _) (stabC (rowP_stable _ _ _ _ _) (stabC (blkP_stable _ _) HL.out))) rfl (.tmp 66) (.tmp 64) 3 rfl 13 (.int .i64 p.size) rfl rfl szIntK (show 13 < 25 by decide) rfl ?_; intro w3 hz; replace hz : Sts W (blkP q (.cells (({ s with named := true, name := p.name, size := p.size }).cells dv gv) 109 (0, 0)) :: rowP 5 1 dv (s).data.length (u8s (s).data) :: rowP 81 2 gv (s).got.length (Fil.rcells (s).got) :: blkP w.heap.size (.cells p.cells 45 (0, 0)) :: l) w3 := hz; have H3 := hid hz; have HP := hid (cProg (stabC (blkP_stable _ _) HL.out) q { s with named := true, name := p.name, size := p.size } (Sts.shutSnk (s := { s with named := true, name := p.name, size := p.size }) (dv := dv) (gv := gv) hz)); clear hz) | (go_at_call 96; refine HP.out.mono ?_; rintro e w4 ⟨rfl, hw⟩; have HF := hid hw; clear hw))
    go_ret
    exact ⟨rfl, HF.out.swap.tail⟩
theorem cMetaK (hn : s.got.length < 1000000) : Calls Try.prog 114 #[.pointer (some ⟨q, 0, none⟩), .agg p.cells] w fun e w' => e = .returned (.int .i64 (s.mdV p).2) ∧ Sts W (snkP q (s.mdV p).1 :: l) w' := by
  unfold Fil.Snk.mdV
  have hm : s.metaBad p = ((s.named && (!(s.name.toList == p.name.toList) || s.size != p.size)) || (s.fin && s.endSize != p.size) || decide (Fil.lastV s.got > p.size)) := rfl
  cases hb : s.metaBad p with
  | true =>
    rw [if_pos rfl]
    refine cMetaBad hl q s p hs hn ?_
    rw [hb] at hm
    clear hb hl hs hn
    cases h1 : s.named <;> cases h2 : (s.name.toList == p.name.toList) <;> cases h3 : (s.size != p.size) <;> cases h4 : s.fin <;> cases h5 : (s.endSize != p.size) <;> cases h6 : decide (Fil.lastV s.got > p.size) <;> rw [h1, h2, h3, h4, h5, h6] at hm <;> revert hm <;> decide
  | false =>
    rw [if_neg (by simp)]
    rw [hb] at hm
    cases h1 : s.named with
    | true =>
      rw [if_pos rfl]
      refine cMetaOkT hl q s p hs hn ?_
      rw [h1] at hm ⊢
      clear hb hl hs hn
      cases h2 : (s.name.toList == p.name.toList) <;> cases h3 : (s.size != p.size) <;> cases h4 : s.fin <;> cases h5 : (s.endSize != p.size) <;> cases h6 : decide (Fil.lastV s.got > p.size) <;> rw [h2, h3, h4, h5, h6] at hm <;> revert hm <;> decide
    | false =>
      rw [if_neg (by simp)]
      refine cMetaOkN hl q s p hs hn ?_
      rw [h1] at hm ⊢
      clear hb hl hs hn
      cases h2 : (s.name.toList == p.name.toList) <;> cases h3 : (s.size != p.size) <;> cases h4 : s.fin <;> cases h5 : (s.endSize != p.size) <;> cases h6 : decide (Fil.lastV s.got > p.size) <;> rw [h2, h3, h4, h5, h6] at hm <;> revert hm <;> decide
set_option maxRecDepth 100000 in
set_option maxHeartbeats 1000000 in
theorem cFinBad (hn : s.got.length < 1000000) (hc0 : (p.code != 0) = false) (hb : (s.fin = true ∧ (s.endSize != p.size) = true) ∨ (s.fin = true ∧ (s.endSize != p.size) = false ∧ ((s.sum : Int) != (p.sum : Int)) = true) ∨ (s.fin = false ∧ s.named = true ∧ (s.size != p.size) = true) ∨ (s.fin = true ∧ (s.endSize != p.size) = false ∧ ((s.sum : Int) != (p.sum : Int)) = false ∧ s.named = true ∧ (s.size != p.size) = true) ∨ (s.fin = false ∧ s.named = false ∧ decide (Fil.lastV s.got > p.size) = true) ∨ (s.fin = false ∧ s.named = true ∧ (s.size != p.size) = false ∧ decide (Fil.lastV s.got > p.size) = true) ∨ (s.fin = true ∧ (s.endSize != p.size) = false ∧ ((s.sum : Int) != (p.sum : Int)) = false ∧ s.named = false ∧ decide (Fil.lastV s.got > p.size) = true) ∨ (s.fin = true ∧ (s.endSize != p.size) = false ∧ ((s.sum : Int) != (p.sum : Int)) = false ∧ s.named = true ∧ (s.size != p.size) = false ∧ decide (Fil.lastV s.got > p.size) = true)) : Calls Try.prog 116 #[.pointer (some ⟨q, 0, none⟩), .agg p.cells] w fun e w' => e = .returned (.int .i64 4) ∧ Sts W (snkP q s :: l) w' := by
  rw [show p.cells = #[.int .i64 p.kind, .int .i64 p.src, .int .i64 p.num, .int .i64 p.cls, .string p.name, .int .i64 p.size, .int .i64 p.off, .slice p.da p.data.length p.dc, .int .u32 (p.sum : Nat), .int .i64 p.code, .slice p.ga p.gaps.length p.gc] from rfl]
  have hls : ∀ B ∈ snkP q s :: l, Stable B := stabC (snkP_stable _ _) hl
  have hz : Sts W (blkP w.heap.size (.cells p.cells 45 (0, 0)) :: snkP q s :: l) (w.alloc (.cells #[.int .i64 p.kind, .int .i64 p.src, .int .i64 p.num, .int .i64 p.cls, .string p.name, .int .i64 p.size, .int .i64 p.off, .slice p.da p.data.length p.dc, .int .u32 (p.sum : Nat), .int .i64 p.code, .slice p.ga p.gaps.length p.gc] 45)) := hs.alloc hls (.cells p.cells 45 (0, 0))
  have hbl : ∀ B ∈ blkP w.heap.size (.cells p.cells 45 (0, 0)) :: l, Stable B := stabC (blkP_stable _ _) hl
  have hsb : ∀ B ∈ blkP w.heap.size (.cells p.cells 45 (0, 0)) :: snkP q s :: l, Stable B := stabC (blkP_stable _ _) hls
  have HN : Hid (∀ n, Sts W (snkP q s :: blkP w.heap.size (.cells p.cells 45 (0, 0)) :: l) ((w.alloc (.cells #[.int .i64 p.kind, .int .i64 p.src, .int .i64 p.num, .int .i64 p.cls, .string p.name, .int .i64 p.size, .int .i64 p.off, .slice p.da p.data.length p.dc, .int .u32 (p.sum : Nat), .int .i64 p.code, .slice p.ga p.gaps.length p.gc] 45)).drewN n)) := hid fun n => (hz.quiet hsb (below_drewN (Below.refl _ _) n)).swap
  have HLS : Hid (∀ n, Calls Try.prog 86 #[.pointer (some ⟨q, 0, none⟩)] ((w.alloc (.cells #[.int .i64 p.kind, .int .i64 p.src, .int .i64 p.num, .int .i64 p.cls, .string p.name, .int .i64 p.size, .int .i64 p.off, .slice p.da p.data.length p.dc, .int .u32 (p.sum : Nat), .int .i64 p.code, .slice p.ga p.gaps.length p.gc] 45)).drewN n) fun e w' => e = .returned (.int .i64 (Fil.lastV s.got)) ∧ ∃ m, w' = ((w.alloc (.cells #[.int .i64 p.kind, .int .i64 p.src, .int .i64 p.num, .int .i64 p.cls, .string p.name, .int .i64 p.size, .int .i64 p.off, .slice p.da p.data.length p.dc, .int .u32 (p.sum : Nat), .int .i64 p.code, .slice p.ga p.gaps.length p.gc] 45)).drewN n).drewN m) := hid fun n => cLastK q s (HN.out n) hn
  obtain ⟨dv, gv, h⟩ := Sts.openSnk hz.swap
  have hC := Sts.snkC h
  have k3 := hC.k3; have k11 := hC.k11; have k13 := hC.k13; have k14 := hC.k14; have k15 := hC.k15; have k16 := hC.k16
  (try dsimp only at k3 k11 k13 k14 k15 k16)
  have hP := Sts.pduC hz
  have p4 := hP.c4; have p5 := hP.c5; have p8 := hP.c8; have p9 := hP.c9
  have HNO : Hid (∀ n, Sts W (blkP q (.cells ((s).cells dv gv) 109 (0, 0)) :: rowP 5 1 dv (s).data.length (u8s (s).data) :: rowP 81 2 gv (s).got.length (Fil.rcells (s).got) :: blkP w.heap.size (.cells p.cells 45 (0, 0)) :: l) ((w.alloc (.cells #[.int .i64 p.kind, .int .i64 p.src, .int .i64 p.num, .int .i64 p.cls, .string p.name, .int .i64 p.size, .int .i64 p.off, .slice p.da p.data.length p.dc, .int .u32 (p.sum : Nat), .int .i64 p.code, .slice p.ga p.gaps.length p.gc] 45)).drewN n)) := hid fun n => h.quiet (stabC (blkP_stable _ _) (stabC (rowP_stable _ _ _ _ _) (stabC (rowP_stable _ _ _ _ _) hbl))) (below_drewN (Below.refl _ _) n)
  have HL := hid hl
  clear hC hP h hz hs hls hbl hsb hl hn
  rcases hb with ⟨c1, c2⟩ | ⟨c1, c2, c3⟩ | ⟨c1, c4, c5⟩ | ⟨c1, c2, c3, c4, c5⟩ | ⟨c1, c4, c6⟩ | ⟨c1, c4, c5, c6⟩ | ⟨c1, c2, c3, c4, c6⟩ | ⟨c1, c2, c3, c4, c5, c6⟩
  all_goals
    (try rw [c1] at k14)
    (try rw [c4] at k11)
    (try clear c1)
    (try clear c4)
    go_enter Try.func116, Try.ntmps116
    go_wp2_with fail
    go_quiet ((go_at_call 86; exact Calls.quiet_of (HLS.out _)))
    go_wp2_with fail
    go_ret
    exact ⟨rfl, (HN.out _).swap.tail⟩
set_option maxRecDepth 100000 in
set_option maxHeartbeats 1000000 in
theorem cFinOkT (hn : s.got.length < 1000000) (hc0 : (p.code != 0) = false) (hb : (s.fin = true ∧ (s.endSize != p.size) = false ∧ ((s.sum : Int) != (p.sum : Int)) = false ∧ s.named = false ∧ decide (Fil.lastV s.got > p.size) = false) ∨ (s.fin = true ∧ (s.endSize != p.size) = false ∧ ((s.sum : Int) != (p.sum : Int)) = false ∧ s.named = true ∧ (s.size != p.size) = false ∧ decide (Fil.lastV s.got > p.size) = false)) : Calls Try.prog 116 #[.pointer (some ⟨q, 0, none⟩), .agg p.cells] w fun e w' => e = .returned (.int .i64 0) ∧ Sts W (snkP q s :: l) w' := by
  rw [show p.cells = #[.int .i64 p.kind, .int .i64 p.src, .int .i64 p.num, .int .i64 p.cls, .string p.name, .int .i64 p.size, .int .i64 p.off, .slice p.da p.data.length p.dc, .int .u32 (p.sum : Nat), .int .i64 p.code, .slice p.ga p.gaps.length p.gc] from rfl]
  have hls : ∀ B ∈ snkP q s :: l, Stable B := stabC (snkP_stable _ _) hl
  have hz : Sts W (blkP w.heap.size (.cells p.cells 45 (0, 0)) :: snkP q s :: l) (w.alloc (.cells #[.int .i64 p.kind, .int .i64 p.src, .int .i64 p.num, .int .i64 p.cls, .string p.name, .int .i64 p.size, .int .i64 p.off, .slice p.da p.data.length p.dc, .int .u32 (p.sum : Nat), .int .i64 p.code, .slice p.ga p.gaps.length p.gc] 45)) := hs.alloc hls (.cells p.cells 45 (0, 0))
  have hbl : ∀ B ∈ blkP w.heap.size (.cells p.cells 45 (0, 0)) :: l, Stable B := stabC (blkP_stable _ _) hl
  have hsb : ∀ B ∈ blkP w.heap.size (.cells p.cells 45 (0, 0)) :: snkP q s :: l, Stable B := stabC (blkP_stable _ _) hls
  have HN : Hid (∀ n, Sts W (snkP q s :: blkP w.heap.size (.cells p.cells 45 (0, 0)) :: l) ((w.alloc (.cells #[.int .i64 p.kind, .int .i64 p.src, .int .i64 p.num, .int .i64 p.cls, .string p.name, .int .i64 p.size, .int .i64 p.off, .slice p.da p.data.length p.dc, .int .u32 (p.sum : Nat), .int .i64 p.code, .slice p.ga p.gaps.length p.gc] 45)).drewN n)) := hid fun n => (hz.quiet hsb (below_drewN (Below.refl _ _) n)).swap
  have HLS : Hid (∀ n, Calls Try.prog 86 #[.pointer (some ⟨q, 0, none⟩)] ((w.alloc (.cells #[.int .i64 p.kind, .int .i64 p.src, .int .i64 p.num, .int .i64 p.cls, .string p.name, .int .i64 p.size, .int .i64 p.off, .slice p.da p.data.length p.dc, .int .u32 (p.sum : Nat), .int .i64 p.code, .slice p.ga p.gaps.length p.gc] 45)).drewN n) fun e w' => e = .returned (.int .i64 (Fil.lastV s.got)) ∧ ∃ m, w' = ((w.alloc (.cells #[.int .i64 p.kind, .int .i64 p.src, .int .i64 p.num, .int .i64 p.cls, .string p.name, .int .i64 p.size, .int .i64 p.off, .slice p.da p.data.length p.dc, .int .u32 (p.sum : Nat), .int .i64 p.code, .slice p.ga p.gaps.length p.gc] 45)).drewN n).drewN m) := hid fun n => cLastK q s (HN.out n) hn
  obtain ⟨dv, gv, h⟩ := Sts.openSnk hz.swap
  have hC := Sts.snkC h
  have k3 := hC.k3; have k11 := hC.k11; have k13 := hC.k13; have k14 := hC.k14; have k15 := hC.k15; have k16 := hC.k16
  (try dsimp only at k3 k11 k13 k14 k15 k16)
  have hP := Sts.pduC hz
  have p4 := hP.c4; have p5 := hP.c5; have p8 := hP.c8; have p9 := hP.c9
  have HNO : Hid (∀ n, Sts W (blkP q (.cells ((s).cells dv gv) 109 (0, 0)) :: rowP 5 1 dv (s).data.length (u8s (s).data) :: rowP 81 2 gv (s).got.length (Fil.rcells (s).got) :: blkP w.heap.size (.cells p.cells 45 (0, 0)) :: l) ((w.alloc (.cells #[.int .i64 p.kind, .int .i64 p.src, .int .i64 p.num, .int .i64 p.cls, .string p.name, .int .i64 p.size, .int .i64 p.off, .slice p.da p.data.length p.dc, .int .u32 (p.sum : Nat), .int .i64 p.code, .slice p.ga p.gaps.length p.gc] 45)).drewN n)) := hid fun n => h.quiet (stabC (blkP_stable _ _) (stabC (rowP_stable _ _ _ _ _) (stabC (rowP_stable _ _ _ _ _) hbl))) (below_drewN (Below.refl _ _) n)
  have HL := hid hl
  clear hC hP h hz hs hls hbl hsb hl hn
  rcases hb with ⟨c1, c2, c3, c4, c6⟩ | ⟨c1, c2, c3, c4, c5, c6⟩
  all_goals
    (try rw [c1] at k14)
    (try rw [c4] at k11)
    (try clear c1)
    (try clear c4)
    go_enter Try.func116, Try.ntmps116
    go_wp2_with fail
    go_quiet ((go_at_call 86; exact Calls.quiet_of (HLS.out _)))
    go_wp2_with fail
    go_ret
    exact ⟨rfl, (HN.out _).swap.tail⟩
set_option maxRecDepth 100000 in
set_option maxHeartbeats 1000000 in
theorem cFinOkN (hn : s.got.length < 1000000) (hc0 : (p.code != 0) = false) (hb : (s.fin = false ∧ s.named = false ∧ decide (Fil.lastV s.got > p.size) = false) ∨ (s.fin = false ∧ s.named = true ∧ (s.size != p.size) = false ∧ decide (Fil.lastV s.got > p.size) = false)) : Calls Try.prog 116 #[.pointer (some ⟨q, 0, none⟩), .agg p.cells] w fun e w' => e = .returned (.int .i64 0) ∧ Sts W (snkP q (({ s with fin := true, endSize := p.size, sum := p.sum, nak := (s.cls == 2) }) : Fil.Snk).prog :: l) w' := by
  rw [show p.cells = #[.int .i64 p.kind, .int .i64 p.src, .int .i64 p.num, .int .i64 p.cls, .string p.name, .int .i64 p.size, .int .i64 p.off, .slice p.da p.data.length p.dc, .int .u32 (p.sum : Nat), .int .i64 p.code, .slice p.ga p.gaps.length p.gc] from rfl]
  have hls : ∀ B ∈ snkP q s :: l, Stable B := stabC (snkP_stable _ _) hl
  have hz : Sts W (blkP w.heap.size (.cells p.cells 45 (0, 0)) :: snkP q s :: l) (w.alloc (.cells #[.int .i64 p.kind, .int .i64 p.src, .int .i64 p.num, .int .i64 p.cls, .string p.name, .int .i64 p.size, .int .i64 p.off, .slice p.da p.data.length p.dc, .int .u32 (p.sum : Nat), .int .i64 p.code, .slice p.ga p.gaps.length p.gc] 45)) := hs.alloc hls (.cells p.cells 45 (0, 0))
  have hbl : ∀ B ∈ blkP w.heap.size (.cells p.cells 45 (0, 0)) :: l, Stable B := stabC (blkP_stable _ _) hl
  have hsb : ∀ B ∈ blkP w.heap.size (.cells p.cells 45 (0, 0)) :: snkP q s :: l, Stable B := stabC (blkP_stable _ _) hls
  have HN : Hid (∀ n, Sts W (snkP q s :: blkP w.heap.size (.cells p.cells 45 (0, 0)) :: l) ((w.alloc (.cells #[.int .i64 p.kind, .int .i64 p.src, .int .i64 p.num, .int .i64 p.cls, .string p.name, .int .i64 p.size, .int .i64 p.off, .slice p.da p.data.length p.dc, .int .u32 (p.sum : Nat), .int .i64 p.code, .slice p.ga p.gaps.length p.gc] 45)).drewN n)) := hid fun n => (hz.quiet hsb (below_drewN (Below.refl _ _) n)).swap
  have HLS : Hid (∀ n, Calls Try.prog 86 #[.pointer (some ⟨q, 0, none⟩)] ((w.alloc (.cells #[.int .i64 p.kind, .int .i64 p.src, .int .i64 p.num, .int .i64 p.cls, .string p.name, .int .i64 p.size, .int .i64 p.off, .slice p.da p.data.length p.dc, .int .u32 (p.sum : Nat), .int .i64 p.code, .slice p.ga p.gaps.length p.gc] 45)).drewN n) fun e w' => e = .returned (.int .i64 (Fil.lastV s.got)) ∧ ∃ m, w' = ((w.alloc (.cells #[.int .i64 p.kind, .int .i64 p.src, .int .i64 p.num, .int .i64 p.cls, .string p.name, .int .i64 p.size, .int .i64 p.off, .slice p.da p.data.length p.dc, .int .u32 (p.sum : Nat), .int .i64 p.code, .slice p.ga p.gaps.length p.gc] 45)).drewN n).drewN m) := hid fun n => cLastK q s (HN.out n) hn
  obtain ⟨dv, gv, h⟩ := Sts.openSnk hz.swap
  have hC := Sts.snkC h
  have k3 := hC.k3; have k11 := hC.k11; have k13 := hC.k13; have k14 := hC.k14; have k15 := hC.k15; have k16 := hC.k16
  (try dsimp only at k3 k11 k13 k14 k15 k16)
  have hP := Sts.pduC hz
  have p4 := hP.c4; have p5 := hP.c5; have p8 := hP.c8; have p9 := hP.c9
  have HNO : Hid (∀ n, Sts W (blkP q (.cells ((s).cells dv gv) 109 (0, 0)) :: rowP 5 1 dv (s).data.length (u8s (s).data) :: rowP 81 2 gv (s).got.length (Fil.rcells (s).got) :: blkP w.heap.size (.cells p.cells 45 (0, 0)) :: l) ((w.alloc (.cells #[.int .i64 p.kind, .int .i64 p.src, .int .i64 p.num, .int .i64 p.cls, .string p.name, .int .i64 p.size, .int .i64 p.off, .slice p.da p.data.length p.dc, .int .u32 (p.sum : Nat), .int .i64 p.code, .slice p.ga p.gaps.length p.gc] 45)).drewN n)) := hid fun n => h.quiet (stabC (blkP_stable _ _) (stabC (rowP_stable _ _ _ _ _) (stabC (rowP_stable _ _ _ _ _) hbl))) (below_drewN (Below.refl _ _) n)
  have HL := hid hl
  clear hC hP h hz hs hls hbl hsb hl hn
  rcases hb with ⟨c1, c4, c6⟩ | ⟨c1, c4, c5, c6⟩
  all_goals
    (try rw [c1] at k14)
    (try rw [c4] at k11)
    (try clear c1)
    (try clear c4)
    go_enter Try.func116, Try.ntmps116
    go_wp2_with fail
    go_quiet ((go_at_call 86; exact Calls.quiet_of (HLS.out _)))
    go_wp2_with (first | (refine wpList_cell (HNO.out _) (stabC (rowP_stable _ _ _ _ _) (stabC (rowP_stable _ _ _ _ _) (stabC (blkP_stable _ _) HL.out))) rfl (.tmp 71) (.const (.bool true)) 4 rfl 14 (.bool true) rfl rfl szBoolK (show 14 < 25 by decide) rfl ?_; intro w1 hz; replace hz : Sts W (blkP q (.cells (({ s with fin := true }).cells dv gv) 109 (0, 0)) :: rowP 5 1 dv (s).data.length (u8s (s).data) :: rowP 81 2 gv (s).got.length (Fil.rcells (s).got) :: blkP w.heap.size (.cells p.cells 45 (0, 0)) :: l) w1 := hz; have H1 := hid hz; clear p4 p5 p8 p9; have hP := Sts.pduC hz.tail.tail.tail; have p5 := hP.c5; have p8 := hP.c8; clear hP; clear hz) | (refine wpList_cell H1.out (stabC (rowP_stable _ _ _ _ _) (stabC (rowP_stable _ _ _ _ _) (stabC (blkP_stable _ _) HL.out))) rfl (.tmp 76) (.tmp 74) 3 rfl 15 (.int .i64 p.size) rfl rfl szIntK (show 15 < 25 by decide) rfl ?_; intro w2 hz; replace hz : Sts W (blkP q (.cells (({ s with fin := true, endSize := p.size }).cells dv gv) 109 (0, 0)) :: rowP 5 1 dv (s).data.length (u8s (s).data) :: rowP 81 2 gv (s).got.length (Fil.rcells (s).got) :: blkP w.heap.size (.cells p.cells 45 (0, 0)) :: l) w2 := hz; have H2 := hid hz; clear p5 p8; have hP := Sts.pduC hz.tail.tail.tail; have p8 := hP.c8; clear hP; clear hz) | (refine wpList_cell H2.out (stabC (rowP_stable _ _ _ _ _) (stabC (rowP_stable _ _ _ _ _) (stabC (blkP_stable _ _) HL.out))) rfl (.tmp 81) (.tmp 79) 43 rfl 16 (.int .u32 (p.sum : Nat)) rfl rfl szU32K (show 16 < 25 by decide) rfl ?_; intro w3 hz; replace hz : Sts W (blkP q (.cells (({ s with fin := true, endSize := p.size, sum := p.sum }).cells dv gv) 109 (0, 0)) :: rowP 5 1 dv (s).data.length (u8s (s).data) :: rowP 81 2 gv (s).got.length (Fil.rcells (s).got) :: blkP w.heap.size (.cells p.cells 45 (0, 0)) :: l) w3 := hz; have H3 := hid hz; have HAK := hid (cAckd q { s with fin := true, endSize := p.size, sum := p.sum } (Sts.shutSnk (s := { s with fin := true, endSize := p.size, sum := p.sum }) (dv := dv) (gv := gv) hz)); clear hz) | (go_at_call 91; refine HAK.out.mono ?_; rintro e w5 ⟨rfl, rfl⟩) | (refine wpList_cell H3.out (stabC (rowP_stable _ _ _ _ _) (stabC (rowP_stable _ _ _ _ _) (stabC (blkP_stable _ _) HL.out))) rfl (.tmp 86) (.tmp 84) 4 rfl 22 (.bool (s.cls == 2)) rfl rfl szBoolK (show 22 < 25 by decide) rfl ?_; intro w4 hz; replace hz : Sts W (blkP q (.cells (({ s with fin := true, endSize := p.size, sum := p.sum, nak := (s.cls == 2) }).cells dv gv) 109 (0, 0)) :: rowP 5 1 dv (s).data.length (u8s (s).data) :: rowP 81 2 gv (s).got.length (Fil.rcells (s).got) :: blkP w.heap.size (.cells p.cells 45 (0, 0)) :: l) w4 := hz; have H4 := hid hz; have HP := hid (cProg (stabC (blkP_stable _ _) HL.out) q { s with fin := true, endSize := p.size, sum := p.sum, nak := (s.cls == 2) } (Sts.shutSnk (s := { s with fin := true, endSize := p.size, sum := p.sum, nak := (s.cls == 2) }) (dv := dv) (gv := gv) hz)); clear hz) | (go_at_call 96; refine HP.out.mono ?_; rintro e w6 ⟨rfl, hw⟩; have HF := hid hw; clear hw))
    go_ret
    exact ⟨rfl, HF.out.swap.tail⟩
set_option maxRecDepth 100000 in
set_option maxHeartbeats 1000000 in
theorem cFinCan (hn : s.got.length < 1000000) (hc0 : (p.code != 0) = true) : Calls Try.prog 116 #[.pointer (some ⟨q, 0, none⟩), .agg p.cells] w fun e w' => e = .returned (.int .i64 0) ∧ Sts W (snkP q { s with phase := 4, susp := false, nak := false, don := false } :: l) w' := by
  rw [show p.cells = #[.int .i64 p.kind, .int .i64 p.src, .int .i64 p.num, .int .i64 p.cls, .string p.name, .int .i64 p.size, .int .i64 p.off, .slice p.da p.data.length p.dc, .int .u32 (p.sum : Nat), .int .i64 p.code, .slice p.ga p.gaps.length p.gc] from rfl]
  have hls : ∀ B ∈ snkP q s :: l, Stable B := stabC (snkP_stable _ _) hl
  have hz : Sts W (blkP w.heap.size (.cells p.cells 45 (0, 0)) :: snkP q s :: l) (w.alloc (.cells #[.int .i64 p.kind, .int .i64 p.src, .int .i64 p.num, .int .i64 p.cls, .string p.name, .int .i64 p.size, .int .i64 p.off, .slice p.da p.data.length p.dc, .int .u32 (p.sum : Nat), .int .i64 p.code, .slice p.ga p.gaps.length p.gc] 45)) := hs.alloc hls (.cells p.cells 45 (0, 0))
  have hbl : ∀ B ∈ blkP w.heap.size (.cells p.cells 45 (0, 0)) :: l, Stable B := stabC (blkP_stable _ _) hl
  have hsb : ∀ B ∈ blkP w.heap.size (.cells p.cells 45 (0, 0)) :: snkP q s :: l, Stable B := stabC (blkP_stable _ _) hls
  have HN : Hid (∀ n, Sts W (snkP q s :: blkP w.heap.size (.cells p.cells 45 (0, 0)) :: l) ((w.alloc (.cells #[.int .i64 p.kind, .int .i64 p.src, .int .i64 p.num, .int .i64 p.cls, .string p.name, .int .i64 p.size, .int .i64 p.off, .slice p.da p.data.length p.dc, .int .u32 (p.sum : Nat), .int .i64 p.code, .slice p.ga p.gaps.length p.gc] 45)).drewN n)) := hid fun n => (hz.quiet hsb (below_drewN (Below.refl _ _) n)).swap
  have HLS : Hid (∀ n, Calls Try.prog 86 #[.pointer (some ⟨q, 0, none⟩)] ((w.alloc (.cells #[.int .i64 p.kind, .int .i64 p.src, .int .i64 p.num, .int .i64 p.cls, .string p.name, .int .i64 p.size, .int .i64 p.off, .slice p.da p.data.length p.dc, .int .u32 (p.sum : Nat), .int .i64 p.code, .slice p.ga p.gaps.length p.gc] 45)).drewN n) fun e w' => e = .returned (.int .i64 (Fil.lastV s.got)) ∧ ∃ m, w' = ((w.alloc (.cells #[.int .i64 p.kind, .int .i64 p.src, .int .i64 p.num, .int .i64 p.cls, .string p.name, .int .i64 p.size, .int .i64 p.off, .slice p.da p.data.length p.dc, .int .u32 (p.sum : Nat), .int .i64 p.code, .slice p.ga p.gaps.length p.gc] 45)).drewN n).drewN m) := hid fun n => cLastK q s (HN.out n) hn
  obtain ⟨dv, gv, h⟩ := Sts.openSnk hz.swap
  have hC := Sts.snkC h
  have k3 := hC.k3; have k11 := hC.k11; have k13 := hC.k13; have k14 := hC.k14; have k15 := hC.k15; have k16 := hC.k16
  (try dsimp only at k3 k11 k13 k14 k15 k16)
  have hP := Sts.pduC hz
  have p9 := hP.c9
  have HNO : Hid (∀ n, Sts W (blkP q (.cells ((s).cells dv gv) 109 (0, 0)) :: rowP 5 1 dv (s).data.length (u8s (s).data) :: rowP 81 2 gv (s).got.length (Fil.rcells (s).got) :: blkP w.heap.size (.cells p.cells 45 (0, 0)) :: l) ((w.alloc (.cells #[.int .i64 p.kind, .int .i64 p.src, .int .i64 p.num, .int .i64 p.cls, .string p.name, .int .i64 p.size, .int .i64 p.off, .slice p.da p.data.length p.dc, .int .u32 (p.sum : Nat), .int .i64 p.code, .slice p.ga p.gaps.length p.gc] 45)).drewN n)) := hid fun n => h.quiet (stabC (blkP_stable _ _) (stabC (rowP_stable _ _ _ _ _) (stabC (rowP_stable _ _ _ _ _) hbl))) (below_drewN (Below.refl _ _) n)
  have HL := hid hl
  clear hC hP h hz hs hls hbl hsb hl hn
  go_enter Try.func116, Try.ntmps116
  go_wp2_with (first | (refine wpList_cell (HNO.out 0) (stabC (rowP_stable _ _ _ _ _) (stabC (rowP_stable _ _ _ _ _) (stabC (blkP_stable _ _) HL.out))) rfl (.tmp 10) (.const (.int .i64 4)) 3 rfl 8 (.int .i64 4) rfl rfl szIntK (show 8 < 25 by decide) rfl ?_; intro w1 hz; replace hz : Sts W (blkP q (.cells (({ s with phase := 4 }).cells dv gv) 109 (0, 0)) :: rowP 5 1 dv (s).data.length (u8s (s).data) :: rowP 81 2 gv (s).got.length (Fil.rcells (s).got) :: blkP w.heap.size (.cells p.cells 45 (0, 0)) :: l) w1 := hz; have H1 := hid hz; clear hz) | (refine wpList_cell H1.out (stabC (rowP_stable _ _ _ _ _) (stabC (rowP_stable _ _ _ _ _) (stabC (blkP_stable _ _) HL.out))) rfl (.tmp 13) (.const (.bool false)) 4 rfl 10 (.bool false) rfl rfl szBoolK (show 10 < 25 by decide) rfl ?_; intro w2 hz; replace hz : Sts W (blkP q (.cells (({ s with phase := 4, susp := false }).cells dv gv) 109 (0, 0)) :: rowP 5 1 dv (s).data.length (u8s (s).data) :: rowP 81 2 gv (s).got.length (Fil.rcells (s).got) :: blkP w.heap.size (.cells p.cells 45 (0, 0)) :: l) w2 := hz; have H2 := hid hz; clear hz) | (refine wpList_cell H2.out (stabC (rowP_stable _ _ _ _ _) (stabC (rowP_stable _ _ _ _ _) (stabC (blkP_stable _ _) HL.out))) rfl (.tmp 16) (.const (.bool false)) 4 rfl 22 (.bool false) rfl rfl szBoolK (show 22 < 25 by decide) rfl ?_; intro w3 hz; replace hz : Sts W (blkP q (.cells (({ s with phase := 4, susp := false, nak := false }).cells dv gv) 109 (0, 0)) :: rowP 5 1 dv (s).data.length (u8s (s).data) :: rowP 81 2 gv (s).got.length (Fil.rcells (s).got) :: blkP w.heap.size (.cells p.cells 45 (0, 0)) :: l) w3 := hz; have H3 := hid hz; clear hz) | (refine wpList_cell H3.out (stabC (rowP_stable _ _ _ _ _) (stabC (rowP_stable _ _ _ _ _) (stabC (blkP_stable _ _) HL.out))) rfl (.tmp 19) (.const (.bool false)) 4 rfl 23 (.bool false) rfl rfl szBoolK (show 23 < 25 by decide) rfl ?_; intro w4 hz; replace hz : Sts W (blkP q (.cells (({ s with phase := 4, susp := false, nak := false, don := false }).cells dv gv) 109 (0, 0)) :: rowP 5 1 dv (s).data.length (u8s (s).data) :: rowP 81 2 gv (s).got.length (Fil.rcells (s).got) :: blkP w.heap.size (.cells p.cells 45 (0, 0)) :: l) w4 := hz; have H4 := hid hz; clear hz))
  go_ret
  exact ⟨rfl, (Sts.shutSnk (s := { s with phase := 4, susp := false, nak := false, don := false }) (dv := dv) (gv := gv) H4.out).swap.tail⟩
theorem cFinK (hn : s.got.length < 1000000) : Calls Try.prog 116 #[.pointer (some ⟨q, 0, none⟩), .agg p.cells] w fun e w' => e = .returned (.int .i64 (s.finV p).2) ∧ Sts W (snkP q (s.finV p).1 :: l) w' := by
  unfold Fil.Snk.finV
  cases hc0 : (p.code != 0) with
  | true => rw [if_pos rfl]; exact cFinCan hl q s p hs hn hc0
  | false =>
  rw [if_neg (by simp)]
  have hm : s.finBad p = ((s.fin && (s.endSize != p.size || ((s.sum : Int) != (p.sum : Int)))) || (s.named && s.size != p.size) || decide (Fil.lastV s.got > p.size)) := rfl
  cases hb : s.finBad p with
  | true =>
    rw [if_pos rfl]
    refine cFinBad hl q s p hs hn hc0 ?_
    rw [hb] at hm
    clear hb hl hs hn
    cases h1 : s.fin <;> cases h2 : (s.endSize != p.size) <;> cases h3 : ((s.sum : Int) != (p.sum : Int)) <;> cases h4 : s.named <;> cases h5 : (s.size != p.size) <;> cases h6 : decide (Fil.lastV s.got > p.size) <;> rw [h1, h2, h3, h4, h5, h6] at hm <;> revert hm <;> decide
  | false =>
    rw [if_neg (by simp)]
    rw [hb] at hm
    cases h1 : s.fin with
    | true =>
      rw [if_pos rfl]
      refine cFinOkT hl q s p hs hn hc0 ?_
      rw [h1] at hm ⊢
      clear hb hl hs hn
      cases h2 : (s.endSize != p.size) <;> cases h3 : ((s.sum : Int) != (p.sum : Int)) <;> cases h4 : s.named <;> cases h5 : (s.size != p.size) <;> cases h6 : decide (Fil.lastV s.got > p.size) <;> rw [h2, h3, h4, h5, h6] at hm <;> revert hm <;> decide
    | false =>
      rw [if_neg (by simp)]
      refine cFinOkN hl q s p hs hn hc0 ?_
      rw [h1] at hm ⊢
      clear hb hl hs hn
      cases h2 : (s.endSize != p.size) <;> cases h3 : ((s.sum : Int) != (p.sum : Int)) <;> cases h4 : s.named <;> cases h5 : (s.size != p.size) <;> cases h6 : decide (Fil.lastV s.got > p.size) <;> rw [h2, h3, h4, h5, h6] at hm <;> revert hm <;> decide
end
end Go.Proofs.Ytfjadhkhmhnccaa
