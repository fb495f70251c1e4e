/- The receiver takes a unit: the walk. -/
import Derived.Test.YtfjadhkhmhnccaaWalkS
import Derived.Test.YtfjadhkhmhnccaaCmpD
import Derived.BigQuiet
set_option linter.unusedVariables false
set_option linter.unusedSimpArgs false
namespace Fil
/-- What the receiver does with a unit: its kind, its place and its data. -/
def Rcv.takeP (r : Rcv) (kind : Int) (f : Nat) (d : List Nat) : Rcv :=
  { named := r.named || (kind == 1), ended := r.ended || (kind == 3), closed := r.closed || (kind == 7), hv := ov r.hv f (fun _ => true) d.length, dt := ov r.dt f (fun i => d.getD i 0) d.length }
end Fil
namespace Go.Proofs.Ytfjadhkhmhnccaa
open Go.RowKit Go.Proofs.Num
def rcvC (r : Fil.Rcv) (vh vd : Value) : Array Value := #[.bool r.named, .bool r.ended, .bool r.closed, vh, vd]
def bools (l : List Bool) : List Value := l.map Value.bool
theorem bools_len (l : List Bool) : (bools l).length = l.length := by simp [bools]
theorem bools_set (l : List Bool) (i : Nat) (b : Bool) : (bools l).set i (.bool b) = bools (l.set i b) := by simp [bools, List.map_set]
theorem u8s_setC (l : List Nat) (i : Nat) (x : Nat) : (u8s l).set i (.int .u8 (x : Nat)) = u8s (l.set i x) := by unfold u8s; rw [List.map_set]
set_option maxRecDepth 100000 in
theorem szBoolC : ∀ w, (Go.sizeOf 4).run Try.prog w = .ok 1 w := fun w => by first | rfl | simp [go_sem] | kernel_rfl
section
variable {W w : World} {l : List HProp} (hl : ∀ B ∈ l, Stable B) (q gh gd D ch cd : Nat) (nm en cl : Bool) (hv : List Bool) (dt : List Nat)
  (hs : Sts W (blkP q (.cells #[.bool nm, .bool en, .bool cl, .slice (some ⟨gh, 0, none⟩) D ch, .slice (some ⟨gd, 0, none⟩) D cd] 53 (0, 0)) :: rowP 4 1 (.slice (some ⟨gh, 0, none⟩) D ch) D (bools hv) :: rowP 5 1 (.slice (some ⟨gd, 0, none⟩) D cd) D (u8s dt) :: l) w) (hD : D ≤ 1500) (hh : hv.length = D) (hd : dt.length = D)
include hl hs hD hh hd
omit hD hh hd in
set_option maxRecDepth 100000 in
set_option maxHeartbeats 4000000 in
theorem cTakeHead (src num cls size off code : Int) (name : ByteArray) (sum : Nat) :
    Calls Try.prog 24 #[.pointer (some ⟨q, 0, none⟩), .agg #[.int .i64 1, .int .i64 src, .int .i64 num, .int .i64 cls, .string name, .int .i64 size, .int .i64 off, .slice none 0 0, .int .u32 (sum : Nat), .int .i64 code, .slice none 0 0]] w fun e w' => e = .returned (.bool false) ∧
      Sts W (blkP q (.cells #[.bool true, .bool en, .bool cl, .slice (some ⟨gh, 0, none⟩) D ch, .slice (some ⟨gd, 0, none⟩) D cd] 53 (0, 0)) :: rowP 4 1 (.slice (some ⟨gh, 0, none⟩) D ch) D (bools hv) :: rowP 5 1 (.slice (some ⟨gd, 0, none⟩) D cd) D (u8s dt) :: l) w' := by
  have HL := hid (stabC (rowP_stable 4 1 (.slice (some ⟨gh, 0, none⟩) D ch) D (bools hv)) (stabC (rowP_stable 5 1 (.slice (some ⟨gd, 0, none⟩) D cd) D (u8s dt)) hl))
  have HB : Hid (Sts W (blkP q (.cells #[.bool nm, .bool en, .bool cl, .slice (some ⟨gh, 0, none⟩) D ch, .slice (some ⟨gd, 0, none⟩) D cd] 53 (0, 0)) :: blkP w.heap.size (.cells #[.int .i64 1, .int .i64 src, .int .i64 num, .int .i64 cls, .string name, .int .i64 size, .int .i64 off, .slice none 0 0, .int .u32 (sum : Nat), .int .i64 code, .slice none 0 0] 45 (0, 0)) :: rowP 4 1 (.slice (some ⟨gh, 0, none⟩) D ch) D (bools hv) :: rowP 5 1 (.slice (some ⟨gd, 0, none⟩) D cd) D (u8s dt) :: l) _) := hid ((hs.alloc (stabC (blkP_stable _ _) HL.out) (.cells #[.int .i64 1, .int .i64 src, .int .i64 num, .int .i64 cls, .string name, .int .i64 size, .int .i64 off, .slice none 0 0, .int .u32 (sum : Nat), .int .i64 code, .slice none 0 0] 45)).swap)
  have HLP := hid (fun o : Obj => stabC (blkP_stable w.heap.size o) HL.out)
  clear hs hl
  have k0 : (w.alloc (.cells #[.int .i64 1, .int .i64 src, .int .i64 num, .int .i64 cls, .string name, .int .i64 size, .int .i64 off, .slice none 0 0, .int .u32 (sum : Nat), .int .i64 code, .slice none 0 0] 45)).cell? ⟨w.heap.size, 0, none⟩ = some (.int .i64 1) := (Sts.boxCell HB.out.swap 0 _ rfl).1
  have k7 : (w.alloc (.cells #[.int .i64 1, .int .i64 src, .int .i64 num, .int .i64 cls, .string name, .int .i64 size, .int .i64 off, .slice none 0 0, .int .u32 (sum : Nat), .int .i64 code, .slice none 0 0] 45)).cell? ⟨w.heap.size, 7, none⟩ = some (.slice none 0 0) := (Sts.boxCell HB.out.swap 7 _ rfl).1
  go_enter Try.func24, Try.ntmps24
  go_wp2_with (first | (refine wpList_cell HB.out (HLP.out _) rfl (.tmp 11) (.const (.bool true)) 4 rfl 0 (.bool true) rfl rfl szBoolC (show 0 < 5 by decide) rfl ?_; intro w2 hz; have HZ : Hid (Sts W (blkP q (.cells #[.bool true, .bool en, .bool cl, .slice (some ⟨gh, 0, none⟩) D ch, .slice (some ⟨gd, 0, none⟩) D cd] 53 (0, 0)) :: blkP w.heap.size (.cells #[.int .i64 1, .int .i64 src, .int .i64 num, .int .i64 cls, .string name, .int .i64 size, .int .i64 off, .slice none 0 0, .int .u32 (sum : Nat), .int .i64 code, .slice none 0 0] 45 (0, 0)) :: rowP 4 1 (.slice (some ⟨gh, 0, none⟩) D ch) D (bools hv) :: rowP 5 1 (.slice (some ⟨gd, 0, none⟩) D cd) D (u8s dt) :: l) w2) := hid hz; clear hz; clear k0; have k0 : w2.cell? ⟨w.heap.size, 0, none⟩ = some (.int .i64 1) := (Sts.boxCell HZ.out.swap 0 _ rfl).1))
  clear k7
  clear k0
  go_loopw [5] (fun i wr => i = .int .i64 0 ∧ Sts W (blkP q (.cells #[.bool true, .bool en, .bool cl, .slice (some ⟨gh, 0, none⟩) D ch, .slice (some ⟨gd, 0, none⟩) D cd] 53 (0, 0)) :: blkP w.heap.size (.cells #[.int .i64 1, .int .i64 src, .int .i64 num, .int .i64 cls, .string name, .int .i64 size, .int .i64 off, .slice none 0 0, .int .u32 (sum : Nat), .int .i64 code, .slice none 0 0] 45 (0, 0)) :: rowP 4 1 (.slice (some ⟨gh, 0, none⟩) D ch) D (bools hv) :: rowP 5 1 (.slice (some ⟨gd, 0, none⟩) D cd) D (u8s dt) :: l) wr) (fun _ _ => 0)
  case atStart => exact ⟨rfl, HZ.out⟩
  case round =>
    obtain ⟨rfl, hS⟩ := hrel
    clear HB HZ
    have HS := hid hS
    clear hS
    have k0 : wr.cell? ⟨w.heap.size, 0, none⟩ = some (.int .i64 1) := (Sts.boxCell HS.out.swap 0 _ rfl).1
    have k7 : wr.cell? ⟨w.heap.size, 7, none⟩ = some (.slice none 0 0) := (Sts.boxCell HS.out.swap 7 _ rfl).1
    go_wp2_with fail
    go_quiet (fail)
    go_wp2_with fail
    go_ret
    exact ⟨rfl, (Sts.quiet (stabC (blkP_stable _ _) (HLP.out _)) HS.out (below_drewN (Below.refl _ _) _)).swap.tail⟩
omit hD hh hd in
set_option maxRecDepth 100000 in
set_option maxHeartbeats 4000000 in
theorem cTakeDone (src num cls size off code : Int) (name : ByteArray) (sum : Nat) :
    Calls Try.prog 24 #[.pointer (some ⟨q, 0, none⟩), .agg #[.int .i64 7, .int .i64 src, .int .i64 num, .int .i64 cls, .string name, .int .i64 size, .int .i64 off, .slice none 0 0, .int .u32 (sum : Nat), .int .i64 code, .slice none 0 0]] w fun e w' => e = .returned (.bool false) ∧
      Sts W (blkP q (.cells #[.bool nm, .bool en, .bool true, .slice (some ⟨gh, 0, none⟩) D ch, .slice (some ⟨gd, 0, none⟩) D cd] 53 (0, 0)) :: rowP 4 1 (.slice (some ⟨gh, 0, none⟩) D ch) D (bools hv) :: rowP 5 1 (.slice (some ⟨gd, 0, none⟩) D cd) D (u8s dt) :: l) w' := by
  have HL := hid (stabC (rowP_stable 4 1 (.slice (some ⟨gh, 0, none⟩) D ch) D (bools hv)) (stabC (rowP_stable 5 1 (.slice (some ⟨gd, 0, none⟩) D cd) D (u8s dt)) hl))
  have HB : Hid (Sts W (blkP q (.cells #[.bool nm, .bool en, .bool cl, .slice (some ⟨gh, 0, none⟩) D ch, .slice (some ⟨gd, 0, none⟩) D cd] 53 (0, 0)) :: blkP w.heap.size (.cells #[.int .i64 7, .int .i64 src, .int .i64 num, .int .i64 cls, .string name, .int .i64 size, .int .i64 off, .slice none 0 0, .int .u32 (sum : Nat), .int .i64 code, .slice none 0 0] 45 (0, 0)) :: rowP 4 1 (.slice (some ⟨gh, 0, none⟩) D ch) D (bools hv) :: rowP 5 1 (.slice (some ⟨gd, 0, none⟩) D cd) D (u8s dt) :: l) _) := hid ((hs.alloc (stabC (blkP_stable _ _) HL.out) (.cells #[.int .i64 7, .int .i64 src, .int .i64 num, .int .i64 cls, .string name, .int .i64 size, .int .i64 off, .slice none 0 0, .int .u32 (sum : Nat), .int .i64 code, .slice none 0 0] 45)).swap)
  have HLP := hid (fun o : Obj => stabC (blkP_stable w.heap.size o) HL.out)
  clear hs hl
  have k0 : (w.alloc (.cells #[.int .i64 7, .int .i64 src, .int .i64 num, .int .i64 cls, .string name, .int .i64 size, .int .i64 off, .slice none 0 0, .int .u32 (sum : Nat), .int .i64 code, .slice none 0 0] 45)).cell? ⟨w.heap.size, 0, none⟩ = some (.int .i64 7) := (Sts.boxCell HB.out.swap 0 _ rfl).1
  have k7 : (w.alloc (.cells #[.int .i64 7, .int .i64 src, .int .i64 num, .int .i64 cls, .string name, .int .i64 size, .int .i64 off, .slice none 0 0, .int .u32 (sum : Nat), .int .i64 code, .slice none 0 0] 45)).cell? ⟨w.heap.size, 7, none⟩ = some (.slice none 0 0) := (Sts.boxCell HB.out.swap 7 _ rfl).1
  go_enter Try.func24, Try.ntmps24
  go_wp2_with (first | (refine wpList_cell HB.out (HLP.out _) rfl (.tmp 17) (.const (.bool true)) 4 rfl 2 (.bool true) rfl rfl szBoolC (show 2 < 5 by decide) rfl ?_; intro w2 hz; have HZ : Hid (Sts W (blkP q (.cells #[.bool nm, .bool en, .bool true, .slice (some ⟨gh, 0, none⟩) D ch, .slice (some ⟨gd, 0, none⟩) D cd] 53 (0, 0)) :: blkP w.heap.size (.cells #[.int .i64 7, .int .i64 src, .int .i64 num, .int .i64 cls, .string name, .int .i64 size, .int .i64 off, .slice none 0 0, .int .u32 (sum : Nat), .int .i64 code, .slice none 0 0] 45 (0, 0)) :: rowP 4 1 (.slice (some ⟨gh, 0, none⟩) D ch) D (bools hv) :: rowP 5 1 (.slice (some ⟨gd, 0, none⟩) D cd) D (u8s dt) :: l) w2) := hid hz; clear hz; clear k0; have k0 : w2.cell? ⟨w.heap.size, 0, none⟩ = some (.int .i64 7) := (Sts.boxCell HZ.out.swap 0 _ rfl).1))
  clear k7
  clear k0
  go_loopw [5] (fun i wr => i = .int .i64 0 ∧ Sts W (blkP q (.cells #[.bool nm, .bool en, .bool true, .slice (some ⟨gh, 0, none⟩) D ch, .slice (some ⟨gd, 0, none⟩) D cd] 53 (0, 0)) :: blkP w.heap.size (.cells #[.int .i64 7, .int .i64 src, .int .i64 num, .int .i64 cls, .string name, .int .i64 size, .int .i64 off, .slice none 0 0, .int .u32 (sum : Nat), .int .i64 code, .slice none 0 0] 45 (0, 0)) :: rowP 4 1 (.slice (some ⟨gh, 0, none⟩) D ch) D (bools hv) :: rowP 5 1 (.slice (some ⟨gd, 0, none⟩) D cd) D (u8s dt) :: l) wr) (fun _ _ => 0)
  case atStart => exact ⟨rfl, HZ.out⟩
  case round =>
    obtain ⟨rfl, hS⟩ := hrel
    clear HB HZ
    have HS := hid hS
    clear hS
    have k0 : wr.cell? ⟨w.heap.size, 0, none⟩ = some (.int .i64 7) := (Sts.boxCell HS.out.swap 0 _ rfl).1
    have k7 : wr.cell? ⟨w.heap.size, 7, none⟩ = some (.slice none 0 0) := (Sts.boxCell HS.out.swap 7 _ rfl).1
    go_wp2_with fail
    go_quiet (fail)
    go_wp2_with fail
    go_ret
    exact ⟨rfl, (Sts.quiet (stabC (blkP_stable _ _) (HLP.out _)) HS.out (below_drewN (Below.refl _ _) _)).swap.tail⟩
omit hD hh hd in
set_option maxRecDepth 100000 in
set_option maxHeartbeats 4000000 in
theorem cTakeEof (src num cls size off code : Int) (name : ByteArray) (sum : Nat) :
    Calls Try.prog 24 #[.pointer (some ⟨q, 0, none⟩), .agg #[.int .i64 3, .int .i64 src, .int .i64 num, .int .i64 cls, .string name, .int .i64 size, .int .i64 off, .slice none 0 0, .int .u32 (sum : Nat), .int .i64 code, .slice none 0 0]] w fun e w' => e = .returned (.bool true) ∧
      Sts W (blkP q (.cells #[.bool nm, .bool true, .bool cl, .slice (some ⟨gh, 0, none⟩) D ch, .slice (some ⟨gd, 0, none⟩) D cd] 53 (0, 0)) :: rowP 4 1 (.slice (some ⟨gh, 0, none⟩) D ch) D (bools hv) :: rowP 5 1 (.slice (some ⟨gd, 0, none⟩) D cd) D (u8s dt) :: l) w' := by
  have HL := hid (stabC (rowP_stable 4 1 (.slice (some ⟨gh, 0, none⟩) D ch) D (bools hv)) (stabC (rowP_stable 5 1 (.slice (some ⟨gd, 0, none⟩) D cd) D (u8s dt)) hl))
  have HB : Hid (Sts W (blkP q (.cells #[.bool nm, .bool en, .bool cl, .slice (some ⟨gh, 0, none⟩) D ch, .slice (some ⟨gd, 0, none⟩) D cd] 53 (0, 0)) :: blkP w.heap.size (.cells #[.int .i64 3, .int .i64 src, .int .i64 num, .int .i64 cls, .string name, .int .i64 size, .int .i64 off, .slice none 0 0, .int .u32 (sum : Nat), .int .i64 code, .slice none 0 0] 45 (0, 0)) :: rowP 4 1 (.slice (some ⟨gh, 0, none⟩) D ch) D (bools hv) :: rowP 5 1 (.slice (some ⟨gd, 0, none⟩) D cd) D (u8s dt) :: l) _) := hid ((hs.alloc (stabC (blkP_stable _ _) HL.out) (.cells #[.int .i64 3, .int .i64 src, .int .i64 num, .int .i64 cls, .string name, .int .i64 size, .int .i64 off, .slice none 0 0, .int .u32 (sum : Nat), .int .i64 code, .slice none 0 0] 45)).swap)
  have HLP := hid (fun o : Obj => stabC (blkP_stable w.heap.size o) HL.out)
  clear hs hl
  have k0 : (w.alloc (.cells #[.int .i64 3, .int .i64 src, .int .i64 num, .int .i64 cls, .string name, .int .i64 size, .int .i64 off, .slice none 0 0, .int .u32 (sum : Nat), .int .i64 code, .slice none 0 0] 45)).cell? ⟨w.heap.size, 0, none⟩ = some (.int .i64 3) := (Sts.boxCell HB.out.swap 0 _ rfl).1
  have k7 : (w.alloc (.cells #[.int .i64 3, .int .i64 src, .int .i64 num, .int .i64 cls, .string name, .int .i64 size, .int .i64 off, .slice none 0 0, .int .u32 (sum : Nat), .int .i64 code, .slice none 0 0] 45)).cell? ⟨w.heap.size, 7, none⟩ = some (.slice none 0 0) := (Sts.boxCell HB.out.swap 7 _ rfl).1
  go_enter Try.func24, Try.ntmps24
  go_wp2_with fail
  clear k0 k7
  go_loopw [5] (fun i wr => i = .int .i64 0 ∧ Sts W (blkP q (.cells #[.bool nm, .bool en, .bool cl, .slice (some ⟨gh, 0, none⟩) D ch, .slice (some ⟨gd, 0, none⟩) D cd] 53 (0, 0)) :: blkP w.heap.size (.cells #[.int .i64 3, .int .i64 src, .int .i64 num, .int .i64 cls, .string name, .int .i64 size, .int .i64 off, .slice none 0 0, .int .u32 (sum : Nat), .int .i64 code, .slice none 0 0] 45 (0, 0)) :: rowP 4 1 (.slice (some ⟨gh, 0, none⟩) D ch) D (bools hv) :: rowP 5 1 (.slice (some ⟨gd, 0, none⟩) D cd) D (u8s dt) :: l) wr) (fun _ _ => 0)
  case atStart => exact ⟨rfl, HB.out⟩
  case round =>
    obtain ⟨rfl, hS⟩ := hrel
    clear HB
    have HS := hid hS
    clear hS
    have k0 : wr.cell? ⟨w.heap.size, 0, none⟩ = some (.int .i64 3) := (Sts.boxCell HS.out.swap 0 _ rfl).1
    have k7 : wr.cell? ⟨w.heap.size, 7, none⟩ = some (.slice none 0 0) := (Sts.boxCell HS.out.swap 7 _ rfl).1
    go_wp2_with fail
    go_quiet (fail)
    go_wp2_with (first | (refine wpList_cell (Sts.quiet (stabC (blkP_stable _ _) (HLP.out _)) HS.out (below_drewN (Below.refl _ _) _)) (HLP.out _) rfl (.tmp 70) (.const (.bool true)) 4 rfl 1 (.bool true) rfl rfl szBoolC (show 1 < 5 by decide) rfl ?_; intro w2 hz; have HZ : Hid (Sts W (blkP q (.cells #[.bool nm, .bool true, .bool cl, .slice (some ⟨gh, 0, none⟩) D ch, .slice (some ⟨gd, 0, none⟩) D cd] 53 (0, 0)) :: blkP w.heap.size (.cells #[.int .i64 3, .int .i64 src, .int .i64 num, .int .i64 cls, .string name, .int .i64 size, .int .i64 off, .slice none 0 0, .int .u32 (sum : Nat), .int .i64 code, .slice none 0 0] 45 (0, 0)) :: rowP 4 1 (.slice (some ⟨gh, 0, none⟩) D ch) D (bools hv) :: rowP 5 1 (.slice (some ⟨gd, 0, none⟩) D cd) D (u8s dt) :: l) w2) := hid hz; clear hz; clear k0; have k0 : w2.cell? ⟨w.heap.size, 0, none⟩ = some (.int .i64 3) := (Sts.boxCell HZ.out.swap 0 _ rfl).1))
    go_ret
    exact ⟨rfl, HZ.out.swap.tail⟩
set_option maxRecDepth 100000 in
set_option maxHeartbeats 8000000 in
/-- A piece of the file. -/
theorem cTakePc (src num cls size code : Int) (name : ByteArray) (sum : Nat) (f n pc : Nat) (b off : Nat) (d : List Nat) (hn : d.length = n) (hf : f + n ≤ D) (hrd : RdsB W l (.slice (some ⟨b, off, none⟩) n pc) d) :
    Calls Try.prog 24 #[.pointer (some ⟨q, 0, none⟩), .agg #[.int .i64 2, .int .i64 src, .int .i64 num, .int .i64 cls, .string name, .int .i64 size, .int .i64 (f : Int), .slice (some ⟨b, off, none⟩) n pc, .int .u32 (sum : Nat), .int .i64 code, .slice none 0 0]] w fun e w' => e = .returned (.bool false) ∧
      Sts W (blkP q (.cells #[.bool nm, .bool en, .bool cl, .slice (some ⟨gh, 0, none⟩) D ch, .slice (some ⟨gd, 0, none⟩) D cd] 53 (0, 0)) :: rowP 4 1 (.slice (some ⟨gh, 0, none⟩) D ch) D (bools (Fil.ov hv f (fun _ => true) n)) :: rowP 5 1 (.slice (some ⟨gd, 0, none⟩) D cd) D (u8s (Fil.ov dt f (fun i => d.getD i 0) n)) :: l) w' := by
  have HR := hid (fun (y : World) (hy : Sts W (blkP w.heap.size (.cells #[.int .i64 2, .int .i64 src, .int .i64 num, .int .i64 cls, .string name, .int .i64 size, .int .i64 (f : Int), .slice (some ⟨b, off, none⟩) n pc, .int .u32 (sum : Nat), .int .i64 code, .slice none 0 0] 45 (0, 0)) :: l) y) (k : Nat) (hk : k < n) => show y.cell? ⟨b, off + k, none⟩ = some (.int .u8 (d.getD k 0 : Nat)) from by
    obtain ⟨a', c', e1, h1⟩ := (hrd.at hy).open
    obtain ⟨b', off', e2, -, e3⟩ := h1 k (by omega)
    injection e1 with e1 _ _
    rw [← e1] at e2
    injection e2 with e2
    injection e2 with e2 e4 _
    rw [e2, e4, e3, List.getD_eq_getElem?_getD, List.getElem?_eq_getElem (by omega)]
    rfl)
  have HP := hid (fun (x y : List Value) => stabC (rowP_stable 4 1 (.slice (some ⟨gh, 0, none⟩) D ch) D x) (stabC (rowP_stable 5 1 (.slice (some ⟨gd, 0, none⟩) D cd) D y) (stabC (blkP_stable w.heap.size (.cells #[.int .i64 2, .int .i64 src, .int .i64 num, .int .i64 cls, .string name, .int .i64 size, .int .i64 (f : Int), .slice (some ⟨b, off, none⟩) n pc, .int .u32 (sum : Nat), .int .i64 code, .slice none 0 0] 45 (0, 0))) hl)))
  have HB := hid ((hs.alloc (stabC (blkP_stable _ _) (stabC (rowP_stable 4 1 (.slice (some ⟨gh, 0, none⟩) D ch) D (bools hv)) (stabC (rowP_stable 5 1 (.slice (some ⟨gd, 0, none⟩) D cd) D (u8s dt)) hl))) (.cells #[.int .i64 2, .int .i64 src, .int .i64 num, .int .i64 cls, .string name, .int .i64 size, .int .i64 (f : Int), .slice (some ⟨b, off, none⟩) n pc, .int .u32 (sum : Nat), .int .i64 code, .slice none 0 0] 45)).perm (show (_ :: _ :: _ :: _ :: l).Perm (_ :: _ :: _ :: _ :: l) from (List.perm_middle (l₁ := [_, _, _])).symm))
  have HN := hid hn
  have HH := hid hh
  have HDL := hid hd
  clear hs hn hrd
  have k0 := (Sts.boxCell HB.out.tail.tail.tail 0 _ rfl).1
  go_enter Try.func24, Try.ntmps24
  go_wp2_with fail
  clear k0
  go_loopw [5] (fun i wr => ∃ k : Nat, k ≤ n ∧ i = .int .i64 k ∧ Sts W (blkP q (.cells #[.bool nm, .bool en, .bool cl, .slice (some ⟨gh, 0, none⟩) D ch, .slice (some ⟨gd, 0, none⟩) D cd] 53 (0, 0)) :: rowP 4 1 (.slice (some ⟨gh, 0, none⟩) D ch) D (bools (Fil.ov hv f (fun _ => true) k)) :: rowP 5 1 (.slice (some ⟨gd, 0, none⟩) D cd) D (u8s (Fil.ov dt f (fun i => d.getD i 0) k)) :: blkP w.heap.size (.cells #[.int .i64 2, .int .i64 src, .int .i64 num, .int .i64 cls, .string name, .int .i64 size, .int .i64 (f : Int), .slice (some ⟨b, off, none⟩) n pc, .int .u32 (sum : Nat), .int .i64 code, .slice none 0 0] 45 (0, 0)) :: l) wr) (fun i _ => n - (intOf i).toNat)
  case atStart => exact ⟨0, by omega, rfl, HB.out⟩
  case round =>
    obtain ⟨k, hk, rfl, hS⟩ := hrel
    clear HB
    have HS := hid hS
    have k0 := (Sts.boxCell hS.tail.tail.tail 0 _ rfl).1
    have k6 := (Sts.boxCell hS.tail.tail.tail 6 _ rfl).1
    have k7 := (Sts.boxCell hS.tail.tail.tail 7 _ rfl).1
    have q4 := (Sts.boxCell hS 4 _ rfl).1
    clear hS
    have f0 : decide ((0 : Int) ≤ (f : Int)) = true := decide_eq_true (by omega)
    by_cases hlt : k < n
    · obtain ⟨m, hm⟩ : ∃ m, m = f + k := ⟨_, rfl⟩
      have hpk : (f : Int) + (k : Int) = (m : Int) := by omega
      have hwm : IntKind.i64.wrap (m : Int) = (m : Int) := i64w m (by omega)
      have hmN : m < D := by omega
      have hmN0 : (0 : Int) ≤ (m : Int) := by omega
      have hmN1 : (m : Int) < (D : Int) := by omega
      have f1 : decide ((k : Int) < (n : Int)) = true := decide_eq_true (by omega)
      have f2 : decide ((m : Int) < (D : Int)) = true := decide_eq_true hmN1
      have HO1 := hid (show Fil.ov hv f (fun _ => true) (k + 1) = (Fil.ov hv f (fun _ => true) k).set m true by rw [hm]; rfl)
      have HO2 := hid (show Fil.ov dt f (fun i => d.getD i 0) (k + 1) = (Fil.ov dt f (fun i => d.getD i 0) k).set m (d.getD k 0) by rw [hm]; rfl)
      obtain ⟨x0, hx0⟩ : ∃ x0, x0 = d.getD k 0 := ⟨_, rfl⟩
      rw [← hx0] at HO2
      have HC := hid (fun (y : World) hy => HR.out y hy k hlt)
      rw [← hx0] at HC
      obtain ⟨oh, hoh⟩ : ∃ oh, oh = Fil.ov hv f (fun _ => true) k := ⟨_, rfl⟩
      obtain ⟨od, hod⟩ : ∃ od, od = Fil.ov dt f (fun i => d.getD i 0) k := ⟨_, rfl⟩
      have LH := hid (show (bools oh).length = D by rw [bools_len, hoh, Fil.ov_len]; exact HH.out)
      have LD := hid (show (u8s od).length = D by rw [u8s_len, hod, Fil.ov_len]; exact HDL.out)
      rw [← hoh] at HO1 HS
      rw [← hod] at HO2 HS
      clear hm hx0 hoh hod
      go_wp2_with fail
      go_quiet (fail)
      go_wp2_with fail
      clear k0 k6 k7 q4
      have HSQ := hid (fun nq => HS.out.quiet (stabC (blkP_stable _ _) (HP.out _ _)) (below_drewN (Below.refl _ _) nq))
      refine wp_region_ord (.pure 0 (.pure 1 (.pure 2 (.pure 3 (.pure 4 (.pure 5 (.pure 6 (.pure 7 (.pure 8 (.eff 9 .nil)))))))))) (fun y => y.cell? ⟨q, 3, none⟩ = some (.slice (some ⟨gh, 0, none⟩) D ch) ∧ y.cell? ⟨w.heap.size, 6, none⟩ = some (.int .i64 (f : Int))) (fun y => Sts W (blkP q (.cells #[.bool nm, .bool en, .bool cl, .slice (some ⟨gh, 0, none⟩) D ch, .slice (some ⟨gd, 0, none⟩) D cd] 53 (0, 0)) :: rowP 4 1 (.slice (some ⟨gh, 0, none⟩) D ch) D (bools oh) :: rowP 5 1 (.slice (some ⟨gd, 0, none⟩) D cd) D (u8s od) :: blkP w.heap.size (.cells #[.int .i64 2, .int .i64 src, .int .i64 num, .int .i64 cls, .string name, .int .i64 size, .int .i64 (f : Int), .slice (some ⟨b, off, none⟩) n pc, .int .u32 (sum : Nat), .int .i64 code, .slice none 0 0] 45 (0, 0)) :: l) y) (by kernel_rfl) (by kernel_rfl) ((HSQ.out _).drew (stabC (blkP_stable _ _) (HP.out _ _))) (fun y hy => ⟨(Sts.boxCell hy 3 _ rfl).1, (Sts.boxCell hy.tail.tail.tail 6 _ rfl).1⟩) ?_
      iterate 9
        (apply ord_pure (ho := rfl)
         · go_simp
         · intro x hx; obtain ⟨q3, k6⟩ := hx; go_simp; rfl
         apply ord_norm
         · go_simp; rfl)
      apply ord_eff (ho := rfl)
      · go_simp
      intro y hy
      obtain ⟨vv, hvv⟩ : ∃ vv, (bools oh)[m]? = some vv := ⟨_, List.getElem?_eq_getElem (by rw [LH.out]; exact hmN)⟩
      have g1 := Sts.rowCell hy.swap m hmN vv hvv
      have g2 := Sts.rowFree hy.swap m
      have hy2 := Sts.rowStore (stabC (blkP_stable _ _) (stabC (rowP_stable _ _ _ _ _) (stabC (blkP_stable _ _) hl))) hy.swap m (.bool true)
      rw [bools_set] at hy2
      clear hvv
      refine eff_skip (fun y => y.cell? ⟨q, 3, none⟩ = some (.slice (some ⟨gh, 0, none⟩) D ch) ∧ y.cell? ⟨w.heap.size, 6, none⟩ = some (.int .i64 (f : Int))) (fun y => Sts W (blkP q (.cells #[.bool nm, .bool en, .bool cl, .slice (some ⟨gh, 0, none⟩) D ch, .slice (some ⟨gd, 0, none⟩) D cd] 53 (0, 0)) :: rowP 4 1 (.slice (some ⟨gh, 0, none⟩) D ch) D (bools (oh.set m true)) :: rowP 5 1 (.slice (some ⟨gd, 0, none⟩) D cd) D (u8s od) :: blkP w.heap.size (.cells #[.int .i64 2, .int .i64 src, .int .i64 num, .int .i64 cls, .string name, .int .i64 size, .int .i64 (f : Int), .slice (some ⟨b, off, none⟩) n pc, .int .u32 (sum : Nat), .int .i64 code, .slice none 0 0] 45 (0, 0)) :: l) y) (w := y.setCell ⟨gh, m, none⟩ (.bool true)) ?_ hy2.swap (fun y hy => ⟨(Sts.boxCell hy 3 _ rfl).1, (Sts.boxCell hy.tail.tail.tail 6 _ rfl).1⟩) (fun _ h => h) ?_
      · clear hy hy2
        go_simp
      clear hy hy2 g1 g2 y
      apply ord_norm
      · go_simp; rfl
      refine ord_nil fun z hz => ?_
      have HZ := hid hz
      clear hz
      go_wp2_with fail
      refine wp_region_ord (.pure 0 (.pure 1 (.pure 2 (.pure 3 (.pure 4 (.pure 5 (.pure 6 (.pure 7 (.pure 8 (.pure 9 (.pure 10 (.pure 11 (.pure 12 (.pure 13 (.eff 14 .nil))))))))))))))) (fun y => y.cell? ⟨q, 4, none⟩ = some (.slice (some ⟨gd, 0, none⟩) D cd) ∧ y.cell? ⟨w.heap.size, 6, none⟩ = some (.int .i64 (f : Int)) ∧ y.cell? ⟨w.heap.size, 7, none⟩ = some (.slice (some ⟨b, off, none⟩) n pc) ∧ y.cell? ⟨b, off + k, none⟩ = some (.int .u8 (x0 : Nat))) (fun y => Sts W (blkP q (.cells #[.bool nm, .bool en, .bool cl, .slice (some ⟨gh, 0, none⟩) D ch, .slice (some ⟨gd, 0, none⟩) D cd] 53 (0, 0)) :: rowP 4 1 (.slice (some ⟨gh, 0, none⟩) D ch) D (bools (oh.set m true)) :: rowP 5 1 (.slice (some ⟨gd, 0, none⟩) D cd) D (u8s od) :: blkP w.heap.size (.cells #[.int .i64 2, .int .i64 src, .int .i64 num, .int .i64 cls, .string name, .int .i64 size, .int .i64 (f : Int), .slice (some ⟨b, off, none⟩) n pc, .int .u32 (sum : Nat), .int .i64 code, .slice none 0 0] 45 (0, 0)) :: l) y) (by kernel_rfl) (by kernel_rfl) (HZ.out.drew (stabC (blkP_stable _ _) (HP.out _ _))) (fun y hy => ⟨(Sts.boxCell hy 4 _ rfl).1, (Sts.boxCell hy.tail.tail.tail 6 _ rfl).1, (Sts.boxCell hy.tail.tail.tail 7 _ rfl).1, HC.out y hy.tail.tail.tail⟩) ?_
      iterate 14
        (apply ord_pure (ho := rfl)
         · go_simp
         · intro x hx; obtain ⟨q4, k6, k7, kd⟩ := hx; go_simp; rfl
         apply ord_norm
         · go_simp; rfl)
      apply ord_eff (ho := rfl)
      · go_simp
      intro y hy
      obtain ⟨vv, hvv⟩ : ∃ vv, (u8s od)[m]? = some vv := ⟨_, List.getElem?_eq_getElem (by rw [LD.out]; exact hmN)⟩
      have g1 := Sts.rowCell hy.third m hmN vv hvv
      have g2 := Sts.rowFree hy.third m
      have hy2 := Sts.rowStore (stabC (blkP_stable _ _) (stabC (rowP_stable _ _ _ _ _) (stabC (blkP_stable _ _) hl))) hy.third m (.int .u8 (x0 : Nat))
      rw [u8s_setC] at hy2
      clear hvv
      refine eff_skip (fun y => y.cell? ⟨q, 4, none⟩ = some (.slice (some ⟨gd, 0, none⟩) D cd) ∧ y.cell? ⟨w.heap.size, 6, none⟩ = some (.int .i64 (f : Int)) ∧ y.cell? ⟨w.heap.size, 7, none⟩ = some (.slice (some ⟨b, off, none⟩) n pc) ∧ y.cell? ⟨b, off + k, none⟩ = some (.int .u8 (x0 : Nat))) (fun y => Sts W (blkP q (.cells #[.bool nm, .bool en, .bool cl, .slice (some ⟨gh, 0, none⟩) D ch, .slice (some ⟨gd, 0, none⟩) D cd] 53 (0, 0)) :: rowP 4 1 (.slice (some ⟨gh, 0, none⟩) D ch) D (bools (oh.set m true)) :: rowP 5 1 (.slice (some ⟨gd, 0, none⟩) D cd) D (u8s (od.set m x0)) :: blkP w.heap.size (.cells #[.int .i64 2, .int .i64 src, .int .i64 num, .int .i64 cls, .string name, .int .i64 size, .int .i64 (f : Int), .slice (some ⟨b, off, none⟩) n pc, .int .u32 (sum : Nat), .int .i64 code, .slice none 0 0] 45 (0, 0)) :: l) y) (w := y.setCell ⟨gd, m, none⟩ (.int .u8 (x0 : Nat))) ?_ hy2.third' (fun y hy => ⟨(Sts.boxCell hy 4 _ rfl).1, (Sts.boxCell hy.tail.tail.tail 6 _ rfl).1, (Sts.boxCell hy.tail.tail.tail 7 _ rfl).1, HC.out y hy.tail.tail.tail⟩) (fun _ h => h) ?_
      · clear hy hy2
        go_simp
      clear hy hy2 g1 g2 y
      apply ord_norm
      · go_simp; rfl
      refine ord_nil fun z hz => ?_
      have HZ2 := hid hz
      clear hz
      go_wp2_with fail
      go_roundw
      case rel => exact ⟨k + 1, by omega, by go_num, by rw [HO1.out, HO2.out]; exact HZ2.out⟩
      case measure => simp [intOf]; omega
    · obtain rfl : n = k := by omega
      have f1 : decide ((n : Int) < (n : Int)) = false := decide_eq_false (by omega)
      clear hlt
      go_wp2_with fail
      go_quiet (fail)
      go_wp2_with fail
      go_ret
      exact ⟨rfl, ((HS.out.quiet (stabC (blkP_stable _ _) (HP.out _ _)) (below_drewN (Below.refl _ _) _)).perm (List.perm_middle (l₁ := [_, _, _]))).tail⟩
end
end Go.Proofs.Ytfjadhkhmhnccaa
