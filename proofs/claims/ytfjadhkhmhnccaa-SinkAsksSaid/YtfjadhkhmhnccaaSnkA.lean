/- The receiving end of a file in memory; its small methods. -/
import Derived.Test.YtfjadhkhmhnccaaWalkS
set_option linter.unusedVariables false
set_option linter.unusedSimpArgs false
namespace Fil
/-- The receiving end. -/
structure Snk where
  src : Int
  num : Int
  cls : Int
  chunk : Int
  timeout : Int
  retries : Int
  now : Int := 0
  phase : Int := 0
  ended : Bool := false
  susp : Bool := false
  named : Bool := false
  name : ByteArray := ⟨#[]⟩
  size : Int := 0
  fin : Bool := false
  endSize : Int := 0
  sum : Nat := 0
  timer : Int := 0
  tries : Int := 0
  ack : Bool := false
  nak : Bool := false
  don : Bool := false
  code : Int := 0
  data : List Nat := []
  got : List Rng.R := []
open Go
def Snk.cells (s : Snk) (dv gv : Value) : Array Value := #[.bool true, .int .i64 s.src, .int .i64 s.num, .int .i64 s.cls, .int .i64 s.chunk, .int .i64 s.timeout, .int .i64 s.retries, .int .i64 s.now, .int .i64 s.phase, .bool s.ended, .bool s.susp, .bool s.named, .string s.name, .int .i64 s.size, .bool s.fin, .int .i64 s.endSize, .int .u32 (s.sum : Nat), dv, gv, .int .i64 s.timer, .int .i64 s.tries, .bool s.ack, .bool s.nak, .bool s.don, .int .i64 s.code]
def Snk.adv (s : Snk) (now : Int) : Snk := if s.now < now ∧ now ≤ 1099511627776 then { s with now := now } else s
def lastV (l : List Rng.R) : Int := match l.getLast? with
  | some r => r.2
  | none => 0
def Snk.tot (s : Snk) : Int × Bool := if s.named = true then (s.size, true) else (s.endSize, s.fin)
def Snk.prog (s : Snk) : Snk := { s with timer := s.now, tries := 0 }
def Snk.failV (s : Snk) (code : Int) : Snk := { s with phase := 3, code := code, susp := false, nak := false, don := (s.cls == 2), timer := s.now, tries := 0 }
def Snk.stateV (s : Snk) : Int := if s.susp = true then 3 else if s.phase = 0 then 1 else if s.phase = 3 then 5 else if s.phase = 4 then 6 else if s.phase = 2 ∧ s.ended = true then 4 else 2
end Fil
namespace Go.Proofs.Ytfjadhkhmhnccaa
open Go.RowKit Go.Proofs.Num
def snkP (q : Nat) (s : Fil.Snk) : HProp := fun w F => ∃ dv gv, star (blkP q (.cells ((s).cells dv gv) 109 (0, 0))) (star (rowP 5 1 dv (s).data.length (u8s (s).data)) (rowP 81 2 gv (s).got.length (Fil.rcells (s).got))) w F
theorem snkP_stable (q : Nat) (s : Fil.Snk) : Stable (snkP q s) where
  dom := by rintro w F ⟨dv, gv, h⟩; exact (star_stable (blkP_stable _ _) (star_stable (rowP_stable _ _ _ _ _) (rowP_stable _ _ _ _ _))).dom h
  keep := by rintro w w' F S ⟨dv, gv, h⟩ hk hS; exact ⟨dv, gv, (star_stable (blkP_stable _ _) (star_stable (rowP_stable _ _ _ _ _) (rowP_stable _ _ _ _ _))).keep h hk hS⟩
theorem Sts.openSnk {W w : World} {l : List HProp} {q : Nat} {s : Fil.Snk} (h : Sts W (snkP q s :: l) w) : ∃ dv gv, Sts W (blkP q (.cells ((s).cells dv gv) 109 (0, 0)) :: rowP 5 1 dv (s).data.length (u8s (s).data) :: rowP 81 2 gv (s).got.length (Fil.rcells (s).got) :: l) w := by
  obtain ⟨F, ⟨F1, F2, ⟨dv, gv, a⟩, b, hd, hF⟩, hb, hn⟩ := h
  refine ⟨dv, gv, ?_⟩
  have h1 : Sts W (star (blkP q (.cells ((s).cells dv gv) 109 (0, 0))) (star (rowP 5 1 dv (s).data.length (u8s (s).data)) (rowP 81 2 gv (s).got.length (Fil.rcells (s).got))) :: l) w := ⟨F, ⟨F1, F2, a, b, hd, hF⟩, hb, hn⟩
  exact h1.split.swap.split.third
theorem Sts.shutSnk {W w : World} {l : List HProp} {q : Nat} {s : Fil.Snk} {dv gv : Value} (h : Sts W (blkP q (.cells ((s).cells dv gv) 109 (0, 0)) :: rowP 5 1 dv (s).data.length (u8s (s).data) :: rowP 81 2 gv (s).got.length (Fil.rcells (s).got) :: l) w) : Sts W (snkP q s :: l) w := by
  have h1 := (h.third'.join (C := star (rowP 5 1 dv (s).data.length (u8s (s).data)) (rowP 81 2 gv (s).got.length (Fil.rcells (s).got))) (fun F h => h)).swap
  exact h1.join (fun F h => ⟨dv, gv, h⟩)
structure SnkC (w : World) (q : Nat) (s : Fil.Snk) (dv gv : Value) : Prop where
  k0 : w.cell? ⟨q, 0, none⟩ = some (.bool true)
  k1 : w.cell? ⟨q, 1, none⟩ = some (.int .i64 s.src)
  k2 : w.cell? ⟨q, 2, none⟩ = some (.int .i64 s.num)
  k3 : w.cell? ⟨q, 3, none⟩ = some (.int .i64 s.cls)
  k4 : w.cell? ⟨q, 4, none⟩ = some (.int .i64 s.chunk)
  k5 : w.cell? ⟨q, 5, none⟩ = some (.int .i64 s.timeout)
  k6 : w.cell? ⟨q, 6, none⟩ = some (.int .i64 s.retries)
  k7 : w.cell? ⟨q, 7, none⟩ = some (.int .i64 s.now)
  k8 : w.cell? ⟨q, 8, none⟩ = some (.int .i64 s.phase)
  k9 : w.cell? ⟨q, 9, none⟩ = some (.bool s.ended)
  k10 : w.cell? ⟨q, 10, none⟩ = some (.bool s.susp)
  k11 : w.cell? ⟨q, 11, none⟩ = some (.bool s.named)
  k12 : w.cell? ⟨q, 12, none⟩ = some (.string s.name)
  k13 : w.cell? ⟨q, 13, none⟩ = some (.int .i64 s.size)
  k14 : w.cell? ⟨q, 14, none⟩ = some (.bool s.fin)
  k15 : w.cell? ⟨q, 15, none⟩ = some (.int .i64 s.endSize)
  k16 : w.cell? ⟨q, 16, none⟩ = some (.int .u32 (s.sum : Nat))
  k17 : w.cell? ⟨q, 17, none⟩ = some (dv)
  k18 : w.cell? ⟨q, 18, none⟩ = some (gv)
  k19 : w.cell? ⟨q, 19, none⟩ = some (.int .i64 s.timer)
  k20 : w.cell? ⟨q, 20, none⟩ = some (.int .i64 s.tries)
  k21 : w.cell? ⟨q, 21, none⟩ = some (.bool s.ack)
  k22 : w.cell? ⟨q, 22, none⟩ = some (.bool s.nak)
  k23 : w.cell? ⟨q, 23, none⟩ = some (.bool s.don)
  k24 : w.cell? ⟨q, 24, none⟩ = some (.int .i64 s.code)
  fr : ∀ j, w.frozen? ⟨q, j, none⟩ = false
theorem Sts.snkC {W w : World} {l : List HProp} {q : Nat} {s : Fil.Snk} {dv gv : Value} (h : Sts W (blkP q (.cells ((s).cells dv gv) 109 (0, 0)) :: l) w) : SnkC w q s dv gv :=
  ⟨(Sts.boxCell h 0 _ rfl).1, (Sts.boxCell h 1 _ rfl).1, (Sts.boxCell h 2 _ rfl).1, (Sts.boxCell h 3 _ rfl).1, (Sts.boxCell h 4 _ rfl).1, (Sts.boxCell h 5 _ rfl).1, (Sts.boxCell h 6 _ rfl).1, (Sts.boxCell h 7 _ rfl).1, (Sts.boxCell h 8 _ rfl).1, (Sts.boxCell h 9 _ rfl).1, (Sts.boxCell h 10 _ rfl).1, (Sts.boxCell h 11 _ rfl).1, (Sts.boxCell h 12 _ rfl).1, (Sts.boxCell h 13 _ rfl).1, (Sts.boxCell h 14 _ rfl).1, (Sts.boxCell h 15 _ rfl).1, (Sts.boxCell h 16 _ rfl).1, (Sts.boxCell h 17 _ rfl).1, (Sts.boxCell h 18 _ rfl).1, (Sts.boxCell h 19 _ rfl).1, (Sts.boxCell h 20 _ rfl).1, (Sts.boxCell h 21 _ rfl).1, (Sts.boxCell h 22 _ rfl).1, (Sts.boxCell h 23 _ rfl).1, (Sts.boxCell h 24 _ rfl).1, fun j => by obtain ⟨F, hF⟩ := h.head; exact free_blk hF.1⟩
set_option maxRecDepth 100000 in
theorem szIntK : ∀ w, (Go.sizeOf 3).run Try.prog w = .ok 1 w := fun w => by first | rfl | simp [go_sem] | kernel_rfl
set_option maxRecDepth 100000 in
theorem szBoolK : ∀ w, (Go.sizeOf 4).run Try.prog w = .ok 1 w := fun w => by first | rfl | simp [go_sem] | kernel_rfl
set_option maxRecDepth 100000 in
theorem szErrK : ∀ w, (Go.sizeOf 33).run Try.prog w = .ok 1 w := fun w => by first | rfl | simp [go_sem] | kernel_rfl
set_option maxRecDepth 100000 in
theorem szStrK : ∀ w, (Go.sizeOf 9).run Try.prog w = .ok 1 w := fun w => by first | rfl | simp [go_sem] | kernel_rfl
set_option maxRecDepth 100000 in
theorem szU32K : ∀ w, (Go.sizeOf 43).run Try.prog w = .ok 1 w := fun w => by first | rfl | simp [go_sem] | kernel_rfl
set_option maxRecDepth 100000 in
theorem szBytesK : ∀ w, (Go.sizeOf 24).run Try.prog w = .ok 1 w := fun w => by first | rfl | simp [go_sem] | kernel_rfl
set_option maxRecDepth 100000 in
theorem szRngK : ∀ w, (Go.sizeOf 36).run Try.prog w = .ok 1 w := fun w => by first | rfl | simp [go_sem] | kernel_rfl
theorem cVal (w : World) (q : Nat) (c0 : w.cell? ⟨q, 0, none⟩ = some (.bool true)) : Calls Try.prog 81 #[.pointer (some ⟨q, 0, none⟩)] w fun e w' => e = .returned (.bool true) ∧ w = w' := by
  go_enter Try.func81, Try.ntmps81
  go_wp2_with fail
  go_ret
  exact ⟨rfl, rfl⟩
theorem cValNil (w : World) : Calls Try.prog 81 #[.pointer none] w fun e w' => e = .returned (.bool false) ∧ w = w' := by
  go_enter Try.func81, Try.ntmps81
  go_wp2_with fail
  go_ret
  exact ⟨rfl, rfl⟩
theorem cKWithin (w : World) (n a b : Int) : Calls Try.prog 80 #[.int .i64 n, .int .i64 a, .int .i64 b] w fun e w' => e = .returned (.bool (Fil.withinB n a b)) ∧ w = w' := by
  unfold Fil.withinB
  rcases Bool.eq_false_or_eq_true (decide (a ≤ n)) with d1 | d1
  all_goals
    rw [d1]
    simp only [Bool.true_and, Bool.false_and]
    go_enter Try.func80, Try.ntmps80
    go_wp2_with fail
    go_ret
    exact ⟨rfl, rfl⟩
section
variable {W w : World} {l : List HProp} (hl : ∀ B ∈ l, Stable B) (q : Nat) (s : Fil.Snk) (hs : Sts W (snkP q s :: l) w)
include hl hs
set_option maxRecDepth 100000 in
set_option maxHeartbeats 1000000 in
theorem cAdvY (now : Int) (h1 : decide (s.now < now) = true) (h2 : decide (now ≤ 1099511627776) = true) : Calls Try.prog 82 #[.pointer (some ⟨q, 0, none⟩), .int .i64 now] w fun e w' => e = .returned (.tuple #[]) ∧ Sts W (snkP q { s with now := now } :: l) w' := by
  obtain ⟨dv, gv, h⟩ := Sts.openSnk hs
  have HS := hid h
  have HO := hid hs
  have HL := hid hl
  have hC := Sts.snkC h; have k7 := hC.k7; (try dsimp only at k7); clear hC
  clear h hs hl
  go_enter Try.func82, Try.ntmps82
  go_wp2_with (first | (refine wpList_cell HS.out (stabC (rowP_stable _ _ _ _ _) (stabC (rowP_stable _ _ _ _ _) HL.out)) rfl (.tmp 17) (.tmp 15) 3 rfl 7 (.int .i64 now) rfl rfl szIntK (show 7 < 25 by decide) rfl ?_; intro w1 hz; replace hz : Sts W (blkP q (.cells (({ s with now := now }).cells dv gv) 109 (0, 0)) :: rowP 5 1 dv (s).data.length (u8s (s).data) :: rowP 81 2 gv (s).got.length (Fil.rcells (s).got) :: l) w1 := hz; have H1 := hid hz; clear hz))
  go_end0
  exact ⟨rfl, Sts.shutSnk (s := { s with now := now }) (dv := dv) (gv := gv) H1.out⟩
omit hl in
set_option maxRecDepth 100000 in
set_option maxHeartbeats 1000000 in
theorem cAdvN (now : Int) (h : decide (s.now < now) = false ∨ (decide (s.now < now) = true ∧ decide (now ≤ 1099511627776) = false)) : Calls Try.prog 82 #[.pointer (some ⟨q, 0, none⟩), .int .i64 now] w fun e w' => e = .returned (.tuple #[]) ∧ Sts W (snkP q s :: l) w' := by
  obtain ⟨dv, gv, h0⟩ := Sts.openSnk hs
  have HO := hid hs
  have hC := Sts.snkC h0; have k7 := hC.k7; (try dsimp only at k7); clear hC
  clear h0 hs
  rcases h with h1 | ⟨h1, h2⟩
  all_goals
    go_enter Try.func82, Try.ntmps82
    go_wp2_with fail
    go_end0
    exact ⟨rfl, HO.out⟩
theorem cAdv (now : Int) : Calls Try.prog 82 #[.pointer (some ⟨q, 0, none⟩), .int .i64 now] w fun e w' => e = .returned (.tuple #[]) ∧ Sts W (snkP q (s.adv now) :: l) w' := by
  unfold Fil.Snk.adv
  by_cases h : s.now < now ∧ now ≤ 1099511627776
  · rw [if_pos h]; exact cAdvY hl q s hs now (decide_eq_true h.1) (decide_eq_true h.2)
  · rw [if_neg h]
    refine cAdvN q s hs now ?_
    simp only [decide_eq_true_eq, decide_eq_false_iff_not]; omega
omit hl in
set_option maxRecDepth 100000 in
set_option maxHeartbeats 1000000 in
theorem cAckd  : Calls Try.prog 91 #[.pointer (some ⟨q, 0, none⟩)] w fun e w' => e = .returned (.bool (s.cls == 2)) ∧ w = w' := by
  obtain ⟨dv, gv, h⟩ := Sts.openSnk hs
  have hC := Sts.snkC h; have k3 := hC.k3; (try dsimp only at k3); clear hC
  clear h hs
  go_enter Try.func91, Try.ntmps91
  go_wp2_with fail
  go_ret
  exact ⟨rfl, rfl⟩
omit hl in
set_option maxRecDepth 100000 in
set_option maxHeartbeats 1000000 in
theorem cTotal  : Calls Try.prog 85 #[.pointer (some ⟨q, 0, none⟩)] w fun e w' => e = .returned (.tuple #[.int .i64 s.tot.1, .bool s.tot.2]) ∧ ∃ m, w' = w.drewN m := by
  obtain ⟨dv, gv, h⟩ := Sts.openSnk hs
  have hC := Sts.snkC h
  have KQ : Hid (∀ n, (w.drewN n).cell? ⟨q, 11, none⟩ = some (.bool s.named)) := hid fun n => hC.k11
  have k11 := hC.k11
  have k13 := hC.k13
  have k14 := hC.k14
  have k15 := hC.k15
  try dsimp only at k11 k13 k14 k15
  clear h hs hC
  unfold Fil.Snk.tot
  rcases Bool.eq_false_or_eq_true s.named with hn | hn
  · rw [hn] at k11
    rw [if_pos hn]
    clear hn KQ
    go_enter Try.func85, Try.ntmps85
    go_wp2_with fail
    go_ret2
    exact ⟨rfl, 0, rfl⟩
  · rw [hn] at k11
    rw [if_neg (by rw [hn]; simp)]
    clear hn KQ
    go_enter Try.func85, Try.ntmps85
    go_wp2_with fail
    go_quiet (fail)
    go_wp2_with fail
    go_ret2
    exact ⟨rfl, _, rfl⟩
set_option maxRecDepth 100000 in
set_option maxHeartbeats 1000000 in
theorem cProg  : Calls Try.prog 96 #[.pointer (some ⟨q, 0, none⟩)] w fun e w' => e = .returned (.tuple #[]) ∧ Sts W (snkP q s.prog :: l) w' := by
  obtain ⟨dv, gv, h⟩ := Sts.openSnk hs
  have HS := hid h
  have HO := hid hs
  have HL := hid hl
  have hC := Sts.snkC h; have k7 := hC.k7; (try dsimp only at k7); clear hC
  clear h hs hl
  go_enter Try.func96, Try.ntmps96
  go_wp2_with (first | (refine wpList_cell HS.out (stabC (rowP_stable _ _ _ _ _) (stabC (rowP_stable _ _ _ _ _) HL.out)) rfl (.tmp 8) (.tmp 6) 3 rfl 19 (.int .i64 s.now) rfl rfl szIntK (show 19 < 25 by decide) rfl ?_; intro w1 hz; replace hz : Sts W (blkP q (.cells (({ s with timer := s.now }).cells dv gv) 109 (0, 0)) :: rowP 5 1 dv (s).data.length (u8s (s).data) :: rowP 81 2 gv (s).got.length (Fil.rcells (s).got) :: l) w1 := hz; have H1 := hid hz; clear hz) | (refine wpList_cell H1.out (stabC (rowP_stable _ _ _ _ _) (stabC (rowP_stable _ _ _ _ _) HL.out)) rfl (.tmp 11) (.const (.int .i64 0)) 3 rfl 20 (.int .i64 0) rfl rfl szIntK (show 20 < 25 by decide) rfl ?_; intro w2 hz; replace hz : Sts W (blkP q (.cells (({ s with timer := s.now, tries := 0 }).cells dv gv) 109 (0, 0)) :: rowP 5 1 dv (s).data.length (u8s (s).data) :: rowP 81 2 gv (s).got.length (Fil.rcells (s).got) :: l) w2 := hz; have H2 := hid hz; clear hz))
  go_end0
  exact ⟨rfl, Sts.shutSnk (s := { s with timer := s.now, tries := 0 }) (dv := dv) (gv := gv) H2.out⟩
set_option maxRecDepth 100000 in
set_option maxHeartbeats 1000000 in
theorem cFail (code : Int) : Calls Try.prog 90 #[.pointer (some ⟨q, 0, none⟩), .int .i64 code] w fun e w' => e = .returned (.tuple #[]) ∧ Sts W (snkP q (s.failV code) :: l) w' := by
  obtain ⟨dv, gv, h⟩ := Sts.openSnk hs
  have HS := hid h
  have HO := hid hs
  have HL := hid hl
  have hC := Sts.snkC h; have k8 := hC.k8; (try dsimp only at k8); clear hC
  clear h hs hl
  go_enter Try.func90, Try.ntmps90
  go_wp2_with (first | (refine wpList_cell HS.out (stabC (rowP_stable _ _ _ _ _) (stabC (rowP_stable _ _ _ _ _) HL.out)) rfl (.tmp 6) (.const (.int .i64 3)) 3 rfl 8 (.int .i64 3) rfl rfl szIntK (show 8 < 25 by decide) rfl ?_; intro w1 hz; replace hz : Sts W (blkP q (.cells (({ s with phase := 3 }).cells dv gv) 109 (0, 0)) :: rowP 5 1 dv (s).data.length (u8s (s).data) :: rowP 81 2 gv (s).got.length (Fil.rcells (s).got) :: l) w1 := hz; have H1 := hid hz; clear hz) | (refine wpList_cell H1.out (stabC (rowP_stable _ _ _ _ _) (stabC (rowP_stable _ _ _ _ _) HL.out)) rfl (.tmp 10) (.tmp 8) 33 rfl 24 (.int .i64 code) rfl rfl szErrK (show 24 < 25 by decide) rfl ?_; intro w2 hz; replace hz : Sts W (blkP q (.cells (({ s with phase := 3, code := code }).cells dv gv) 109 (0, 0)) :: rowP 5 1 dv (s).data.length (u8s (s).data) :: rowP 81 2 gv (s).got.length (Fil.rcells (s).got) :: l) w2 := hz; have H2 := hid hz; clear hz) | (refine wpList_cell H2.out (stabC (rowP_stable _ _ _ _ _) (stabC (rowP_stable _ _ _ _ _) HL.out)) rfl (.tmp 13) (.const (.bool false)) 4 rfl 10 (.bool false) rfl rfl szBoolK (show 10 < 25 by decide) rfl ?_; intro w3 hz; replace hz : Sts W (blkP q (.cells (({ s with phase := 3, code := code, susp := false }).cells dv gv) 109 (0, 0)) :: rowP 5 1 dv (s).data.length (u8s (s).data) :: rowP 81 2 gv (s).got.length (Fil.rcells (s).got) :: l) w3 := hz; have H3 := hid hz; clear hz) | (refine wpList_cell H3.out (stabC (rowP_stable _ _ _ _ _) (stabC (rowP_stable _ _ _ _ _) HL.out)) rfl (.tmp 16) (.const (.bool false)) 4 rfl 22 (.bool false) rfl rfl szBoolK (show 22 < 25 by decide) rfl ?_; intro w4 hz; replace hz : Sts W (blkP q (.cells (({ s with phase := 3, code := code, susp := false, nak := false }).cells dv gv) 109 (0, 0)) :: rowP 5 1 dv (s).data.length (u8s (s).data) :: rowP 81 2 gv (s).got.length (Fil.rcells (s).got) :: l) w4 := hz; have H4 := hid hz; have HA := hid (cAckd q { s with phase := 3, code := code, susp := false, nak := false } (Sts.shutSnk (s := { s with phase := 3, code := code, susp := false, nak := false }) (dv := dv) (gv := gv) hz)); clear hz) | (go_at_call 91; refine HA.out.mono ?_; rintro e w5 ⟨rfl, rfl⟩) | (refine wpList_cell H4.out (stabC (rowP_stable _ _ _ _ _) (stabC (rowP_stable _ _ _ _ _) HL.out)) rfl (.tmp 21) (.tmp 19) 4 rfl 23 (.bool (s.cls == 2)) rfl rfl szBoolK (show 23 < 25 by decide) rfl ?_; intro w5 hz; replace hz : Sts W (blkP q (.cells (({ s with phase := 3, code := code, susp := false, nak := false, don := (s.cls == 2) }).cells dv gv) 109 (0, 0)) :: rowP 5 1 dv (s).data.length (u8s (s).data) :: rowP 81 2 gv (s).got.length (Fil.rcells (s).got) :: l) w5 := hz; have H5 := hid hz; have HP := hid (cProg HL.out q { s with phase := 3, code := code, susp := false, nak := false, don := (s.cls == 2) } (Sts.shutSnk (s := { s with phase := 3, code := code, susp := false, nak := false, don := (s.cls == 2) }) (dv := dv) (gv := gv) hz)); clear hz) | (go_at_call 96; refine HP.out.mono ?_; rintro e w6 ⟨rfl, hw⟩; have HF := hid hw; clear hw))
  go_end0
  exact ⟨rfl, HF.out⟩
end
end Go.Proofs.Ytfjadhkhmhnccaa
