/- The contracts of source.Next, branch by branch. -/
import Derived.Test.YtfjadhkhmhnccaaSrcRep
set_option linter.unusedVariables false
set_option linter.unusedSimpArgs false
namespace Go.Proofs.Ytfjadhkhmhnccaa
open Go.RowKit Go.Proofs.Num
section
variable {W w : World} {l : List HProp} (hl : ∀ B ∈ l, Stable B) (q : Nat) (s s1 : Fil.Src) (hs : Sts W (srcP q s :: l) w) (now : Int) (hp1 : s.pass now = s1)
include hl hs hp1
set_option maxRecDepth 100000 in
set_option maxHeartbeats 2000000 in
theorem cNextSusp (c1 : s1.susp = true) : Calls Try.prog 20 #[.pointer (some ⟨q, 0, none⟩), .int .i64 now] w fun e w' => e = .returned (.tuple #[.agg zeroPdu, .bool false]) ∧ Sts W (srcP q s1 :: l) w' := by
  obtain ⟨dv, wv, h⟩ := Sts.openSrc hs
  obtain ⟨da, dc, hde⟩ := (Rd.of_own (Sts.rowOwn (h.swap)) (u8s_len _)).eq
  rw [u8s_len] at hde
  subst hde
  have hl3 : ∀ B ∈ blkP q (.cells (s.cells (.slice da s.data.length dc) wv) 64 (0, 0)) :: rowP 5 1 (.slice da s.data.length dc) s.data.length (u8s s.data) :: rowP 81 2 wv s.wanted.length (Fil.rcells s.wanted) :: l, Stable B := stabC (blkP_stable _ _) (stabC (rowP_stable _ _ _ _ _) (stabC (rowP_stable _ _ _ _ _) hl))
  have hz : Sts W (blkP w.heap.size (.cells zeroPdu 45 (0, 0)) :: blkP q (.cells (s.cells (.slice da s.data.length dc) wv) 64 (0, 0)) :: rowP 5 1 (.slice da s.data.length dc) s.data.length (u8s s.data) :: rowP 81 2 wv s.wanted.length (Fil.rcells s.wanted) :: l) (w.alloc (.cells #[.int .i64 0, .int .i64 0, .int .i64 0, .int .i64 0, .string ⟨#[]⟩, .int .i64 0, .int .i64 0, .slice none 0 0, .int .u32 0, .int .i64 0, .slice none 0 0] 45)) := h.alloc hl3 (.cells zeroPdu 45 (0, 0))
  have hl6 : ∀ B ∈ blkP w.heap.size (.cells zeroPdu 45 (0, 0)) :: l, Stable B := stabC (blkP_stable _ _) hl
  have hsz0 := Sts.shutSrc (hz.perm ((List.perm_middle (l₁ := [_, _, _]) (l₂ := l)).symm))
  have hP := cPass hl6 q s hsz0 now
  rw [hp1] at hP
  have HP := hid hP
  have k0 := (Sts.srcC hz.swap).k0
  have HOK := hid (cOkS _ q k0)
  have HL6 := hid hl6
  have HL := hid hl
  clear hP hsz0 h hz hs hl6 hl3 k0 hp1 hl
  go_enter Try.func20, Try.ntmps20
  go_wp2_with (first | (go_at_call 59; refine HOK.out.mono ?_; rintro e w2 ⟨rfl, rfl⟩) | (go_at_call 60; refine HP.out.mono ?_; rintro e w1 ⟨rfl, h1⟩; obtain ⟨dv, wv, h2⟩ := Sts.openSrc h1; obtain ⟨wa, wc, rfl⟩ := (RdR.of_own (Sts.rowOwnK h2.third) rfl).eq; have H1 := hid h1; have hC := Sts.srcC h2; have k9 := hC.k9; have k10 := hC.k10; have k11 := hC.k11; have k14 := hC.k14; have k15 := hC.k15; have k19 := hC.k19; rw [c1] at k11; have HS := hid ((h2).perm (List.perm_middle (l₁ := [_, _, _]) (l₂ := l))); have fz : ∀ j, World.frozen? w1 ⟨w.heap.size, j, none⟩ = false := fun j => (by obtain ⟨F, hF⟩ := HS.out.head; exact free_blk hF.1); have z0 := (Sts.boxCell HS.out 0 _ rfl).1; have z1 := (Sts.boxCell HS.out 1 _ rfl).1; have z2 := (Sts.boxCell HS.out 2 _ rfl).1; have z3 := (Sts.boxCell HS.out 3 _ rfl).1; have z4 := (Sts.boxCell HS.out 4 _ rfl).1; have z5 := (Sts.boxCell HS.out 5 _ rfl).1; have z6 := (Sts.boxCell HS.out 6 _ rfl).1; have z7 := (Sts.boxCell HS.out 7 _ rfl).1; have z8 := (Sts.boxCell HS.out 8 _ rfl).1; have z9 := (Sts.boxCell HS.out 9 _ rfl).1; have z10 := (Sts.boxCell HS.out 10 _ rfl).1; clear h1 h2 hC))
  clear fz z0 z1 z2 z3 z4 z5 z6 z7 z8 z9 z10 k9 k10 k11 k14 k15 k19
  refine (show ∀ z, Sts W (blkP w.heap.size (.cells zeroPdu 45 (0, 0)) :: blkP q (.cells (s1.cells dv (.slice wa s1.wanted.length wc)) 64 (0, 0)) :: rowP 5 1 dv s1.data.length (u8s s1.data) :: rowP 81 2 (.slice wa s1.wanted.length wc) s1.wanted.length (Fil.rcells s1.wanted) :: l) z → bodyPost _ _ _ _ _ z from ?_) _ (zeroAgain0 (stabC (blkP_stable _ _) (stabC (rowP_stable _ _ _ _ _) (stabC (rowP_stable _ _ _ _ _) HL.out))) HS.out)
  clear HS
  intro z hz
  have e0 : z.cell? ⟨w.heap.size, 0, none⟩ = some (.int .i64 0) := (Sts.boxCell hz 0 _ rfl).1
  have e1 : z.cell? ⟨w.heap.size, 1, none⟩ = some (.int .i64 0) := (Sts.boxCell hz 1 _ rfl).1
  have e2 : z.cell? ⟨w.heap.size, 2, none⟩ = some (.int .i64 0) := (Sts.boxCell hz 2 _ rfl).1
  have e3 : z.cell? ⟨w.heap.size, 3, none⟩ = some (.int .i64 0) := (Sts.boxCell hz 3 _ rfl).1
  have e4 : z.cell? ⟨w.heap.size, 4, none⟩ = some (.string ⟨#[]⟩) := (Sts.boxCell hz 4 _ rfl).1
  have e5 : z.cell? ⟨w.heap.size, 5, none⟩ = some (.int .i64 0) := (Sts.boxCell hz 5 _ rfl).1
  have e6 : z.cell? ⟨w.heap.size, 6, none⟩ = some (.int .i64 0) := (Sts.boxCell hz 6 _ rfl).1
  have e7 : z.cell? ⟨w.heap.size, 7, none⟩ = some (.slice none 0 0) := (Sts.boxCell hz 7 _ rfl).1
  have e8 : z.cell? ⟨w.heap.size, 8, none⟩ = some (.int .u32 0) := (Sts.boxCell hz 8 _ rfl).1
  have e9 : z.cell? ⟨w.heap.size, 9, none⟩ = some (.int .i64 0) := (Sts.boxCell hz 9 _ rfl).1
  have e10 : z.cell? ⟨w.heap.size, 10, none⟩ = some (.slice none 0 0) := (Sts.boxCell hz 10 _ rfl).1
  have HF := hid hz
  clear hz
  refine bodyPost_ret (v := .tuple #[.agg #[.int .i64 0, .int .i64 0, .int .i64 0, .int .i64 0, .string ⟨#[]⟩, .int .i64 0, .int .i64 0, .slice none 0 0, .int .u32 0, .int .i64 0, .slice none 0 0], .bool false]) ?_ rfl ⟨rfl, Sts.shutSrc HF.out.tail⟩
  simp [results, Try.results20, go_sem, e0, e1, e2, e3, e4, e5, e6, e7, e8, e9, e10]
set_option maxRecDepth 100000 in
set_option maxHeartbeats 2000000 in
theorem cNextAck (c1 : s1.susp = false) (c2 : s1.due = true) : Calls Try.prog 20 #[.pointer (some ⟨q, 0, none⟩), .int .i64 now] w fun e w' => e = .returned (.tuple #[.agg (Fil.ackP s1).cells, .bool true]) ∧ Sts W (srcP q s1.finV :: l) w' := by
  obtain ⟨dv, wv, h⟩ := Sts.openSrc hs
  obtain ⟨da, dc, hde⟩ := (Rd.of_own (Sts.rowOwn (h.swap)) (u8s_len _)).eq
  rw [u8s_len] at hde
  subst hde
  have hl3 : ∀ B ∈ blkP q (.cells (s.cells (.slice da s.data.length dc) wv) 64 (0, 0)) :: rowP 5 1 (.slice da s.data.length dc) s.data.length (u8s s.data) :: rowP 81 2 wv s.wanted.length (Fil.rcells s.wanted) :: l, Stable B := stabC (blkP_stable _ _) (stabC (rowP_stable _ _ _ _ _) (stabC (rowP_stable _ _ _ _ _) hl))
  have hz : Sts W (blkP w.heap.size (.cells zeroPdu 45 (0, 0)) :: blkP q (.cells (s.cells (.slice da s.data.length dc) wv) 64 (0, 0)) :: rowP 5 1 (.slice da s.data.length dc) s.data.length (u8s s.data) :: rowP 81 2 wv s.wanted.length (Fil.rcells s.wanted) :: l) (w.alloc (.cells #[.int .i64 0, .int .i64 0, .int .i64 0, .int .i64 0, .string ⟨#[]⟩, .int .i64 0, .int .i64 0, .slice none 0 0, .int .u32 0, .int .i64 0, .slice none 0 0] 45)) := h.alloc hl3 (.cells zeroPdu 45 (0, 0))
  have hl6 : ∀ B ∈ blkP w.heap.size (.cells zeroPdu 45 (0, 0)) :: l, Stable B := stabC (blkP_stable _ _) hl
  have hsz0 := Sts.shutSrc (hz.perm ((List.perm_middle (l₁ := [_, _, _]) (l₂ := l)).symm))
  have hP := cPass hl6 q s hsz0 now
  rw [hp1] at hP
  have HP := hid hP
  have k0 := (Sts.srcC hz.swap).k0
  have HOK := hid (cOkS _ q k0)
  have HL6 := hid hl6
  have HL := hid hl
  clear hP hsz0 h hz hs hl6 hl3 k0 hp1 hl
  go_enter Try.func20, Try.ntmps20
  go_wp2_with (first | (go_at_call 59; refine HOK.out.mono ?_; rintro e w2 ⟨rfl, rfl⟩) | (go_at_call 60; refine HP.out.mono ?_; rintro e w1 ⟨rfl, h1⟩; obtain ⟨dv, wv, h2⟩ := Sts.openSrc h1; obtain ⟨wa, wc, rfl⟩ := (RdR.of_own (Sts.rowOwnK h2.third) rfl).eq; have H1 := hid h1; have hC := Sts.srcC h2; have k9 := hC.k9; have k10 := hC.k10; have k11 := hC.k11; have k14 := hC.k14; have k15 := hC.k15; have k19 := hC.k19; rw [c1] at k11; rw [c2] at k19; clear h1 h2 hC) | (go_at_call 61; refine (cFinish HL6.out q s1 H1.out).mono ?_; rintro e w2 ⟨he, hw2⟩; obtain rfl : e = .returned (.agg #[.int .i64 7, .int .i64 s1.src, .int .i64 s1.num, .int .i64 0, .string ⟨#[]⟩, .int .i64 0, .int .i64 0, .slice none 0 0, .int .u32 0, .int .i64 0, .slice none 0 0]) := he; have HS := hid (hw2.swap); have fz : ∀ j, World.frozen? w2 ⟨w.heap.size, j, none⟩ = false := fun j => (by obtain ⟨F, hF⟩ := HS.out.head; exact free_blk hF.1); have z0 := (Sts.boxCell HS.out 0 _ rfl).1; have z1 := (Sts.boxCell HS.out 1 _ rfl).1; have z2 := (Sts.boxCell HS.out 2 _ rfl).1; have z3 := (Sts.boxCell HS.out 3 _ rfl).1; have z4 := (Sts.boxCell HS.out 4 _ rfl).1; have z5 := (Sts.boxCell HS.out 5 _ rfl).1; have z6 := (Sts.boxCell HS.out 6 _ rfl).1; have z7 := (Sts.boxCell HS.out 7 _ rfl).1; have z8 := (Sts.boxCell HS.out 8 _ rfl).1; have z9 := (Sts.boxCell HS.out 9 _ rfl).1; have z10 := (Sts.boxCell HS.out 10 _ rfl).1; clear hw2))
  have hf := Sts.storeAll (stabC (srcP_stable _ _) HL.out) (Fil.ackP s1).cells.toList 0 _ _ HS.out
  rw [show putAll 0 (Fil.ackP s1).cells.toList zeroPdu = (Fil.ackP s1).cells by kernel_rfl] at hf
  clear HS fz z0 z1 z2 z3 z4 z5 z6 z7 z8 z9 z10
  refine (show ∀ z, Sts W (blkP w.heap.size (.cells (Fil.ackP s1).cells 45 (0, 0)) :: srcP q s1.finV :: l) z → bodyPost _ _ _ _ _ z from ?_) _ (hf)
  clear hf
  intro z hz
  have e0 : z.cell? ⟨w.heap.size, 0, none⟩ = some (.int .i64 7) := (Sts.boxCell hz 0 _ rfl).1
  have e1 : z.cell? ⟨w.heap.size, 1, none⟩ = some (.int .i64 s1.src) := (Sts.boxCell hz 1 _ rfl).1
  have e2 : z.cell? ⟨w.heap.size, 2, none⟩ = some (.int .i64 s1.num) := (Sts.boxCell hz 2 _ rfl).1
  have e3 : z.cell? ⟨w.heap.size, 3, none⟩ = some (.int .i64 0) := (Sts.boxCell hz 3 _ rfl).1
  have e4 : z.cell? ⟨w.heap.size, 4, none⟩ = some (.string ⟨#[]⟩) := (Sts.boxCell hz 4 _ rfl).1
  have e5 : z.cell? ⟨w.heap.size, 5, none⟩ = some (.int .i64 0) := (Sts.boxCell hz 5 _ rfl).1
  have e6 : z.cell? ⟨w.heap.size, 6, none⟩ = some (.int .i64 0) := (Sts.boxCell hz 6 _ rfl).1
  have e7 : z.cell? ⟨w.heap.size, 7, none⟩ = some (.slice none 0 0) := (Sts.boxCell hz 7 _ rfl).1
  have e8 : z.cell? ⟨w.heap.size, 8, none⟩ = some (.int .u32 0) := (Sts.boxCell hz 8 _ rfl).1
  have e9 : z.cell? ⟨w.heap.size, 9, none⟩ = some (.int .i64 0) := (Sts.boxCell hz 9 _ rfl).1
  have e10 : z.cell? ⟨w.heap.size, 10, none⟩ = some (.slice none 0 0) := (Sts.boxCell hz 10 _ rfl).1
  have HF := hid hz
  clear hz
  refine bodyPost_ret (v := .tuple #[.agg #[.int .i64 7, .int .i64 s1.src, .int .i64 s1.num, .int .i64 0, .string ⟨#[]⟩, .int .i64 0, .int .i64 0, .slice none 0 0, .int .u32 0, .int .i64 0, .slice none 0 0], .bool true]) ?_ rfl ⟨rfl, HF.out.tail⟩
  simp [results, Try.results20, go_sem, e0, e1, e2, e3, e4, e5, e6, e7, e8, e9, e10]
set_option maxRecDepth 100000 in
set_option maxHeartbeats 2000000 in
theorem cNextOver (c1 : s1.susp = false) (c2 : s1.due = false) (c3 : (s1.phase == 3) = false) (c4 : decide (4 ≤ s1.phase) = true) : Calls Try.prog 20 #[.pointer (some ⟨q, 0, none⟩), .int .i64 now] w fun e w' => e = .returned (.tuple #[.agg zeroPdu, .bool false]) ∧ Sts W (srcP q s1 :: l) w' := by
  obtain ⟨dv, wv, h⟩ := Sts.openSrc hs
  obtain ⟨da, dc, hde⟩ := (Rd.of_own (Sts.rowOwn (h.swap)) (u8s_len _)).eq
  rw [u8s_len] at hde
  subst hde
  have hl3 : ∀ B ∈ blkP q (.cells (s.cells (.slice da s.data.length dc) wv) 64 (0, 0)) :: rowP 5 1 (.slice da s.data.length dc) s.data.length (u8s s.data) :: rowP 81 2 wv s.wanted.length (Fil.rcells s.wanted) :: l, Stable B := stabC (blkP_stable _ _) (stabC (rowP_stable _ _ _ _ _) (stabC (rowP_stable _ _ _ _ _) hl))
  have hz : Sts W (blkP w.heap.size (.cells zeroPdu 45 (0, 0)) :: blkP q (.cells (s.cells (.slice da s.data.length dc) wv) 64 (0, 0)) :: rowP 5 1 (.slice da s.data.length dc) s.data.length (u8s s.data) :: rowP 81 2 wv s.wanted.length (Fil.rcells s.wanted) :: l) (w.alloc (.cells #[.int .i64 0, .int .i64 0, .int .i64 0, .int .i64 0, .string ⟨#[]⟩, .int .i64 0, .int .i64 0, .slice none 0 0, .int .u32 0, .int .i64 0, .slice none 0 0] 45)) := h.alloc hl3 (.cells zeroPdu 45 (0, 0))
  have hl6 : ∀ B ∈ blkP w.heap.size (.cells zeroPdu 45 (0, 0)) :: l, Stable B := stabC (blkP_stable _ _) hl
  have hsz0 := Sts.shutSrc (hz.perm ((List.perm_middle (l₁ := [_, _, _]) (l₂ := l)).symm))
  have hP := cPass hl6 q s hsz0 now
  rw [hp1] at hP
  have HP := hid hP
  have k0 := (Sts.srcC hz.swap).k0
  have HOK := hid (cOkS _ q k0)
  have HL6 := hid hl6
  have HL := hid hl
  clear hP hsz0 h hz hs hl6 hl3 k0 hp1 hl
  go_enter Try.func20, Try.ntmps20
  go_wp2_with (first | (go_at_call 59; refine HOK.out.mono ?_; rintro e w2 ⟨rfl, rfl⟩) | (go_at_call 60; refine HP.out.mono ?_; rintro e w1 ⟨rfl, h1⟩; obtain ⟨dv, wv, h2⟩ := Sts.openSrc h1; obtain ⟨wa, wc, rfl⟩ := (RdR.of_own (Sts.rowOwnK h2.third) rfl).eq; have H1 := hid h1; have hC := Sts.srcC h2; have k9 := hC.k9; have k10 := hC.k10; have k11 := hC.k11; have k14 := hC.k14; have k15 := hC.k15; have k19 := hC.k19; rw [c1] at k11; rw [c2] at k19; have HS := hid ((h2).perm (List.perm_middle (l₁ := [_, _, _]) (l₂ := l))); have fz : ∀ j, World.frozen? w1 ⟨w.heap.size, j, none⟩ = false := fun j => (by obtain ⟨F, hF⟩ := HS.out.head; exact free_blk hF.1); have z0 := (Sts.boxCell HS.out 0 _ rfl).1; have z1 := (Sts.boxCell HS.out 1 _ rfl).1; have z2 := (Sts.boxCell HS.out 2 _ rfl).1; have z3 := (Sts.boxCell HS.out 3 _ rfl).1; have z4 := (Sts.boxCell HS.out 4 _ rfl).1; have z5 := (Sts.boxCell HS.out 5 _ rfl).1; have z6 := (Sts.boxCell HS.out 6 _ rfl).1; have z7 := (Sts.boxCell HS.out 7 _ rfl).1; have z8 := (Sts.boxCell HS.out 8 _ rfl).1; have z9 := (Sts.boxCell HS.out 9 _ rfl).1; have z10 := (Sts.boxCell HS.out 10 _ rfl).1; clear h1 h2 hC))
  clear fz z0 z1 z2 z3 z4 z5 z6 z7 z8 z9 z10 k9 k10 k11 k14 k15 k19
  refine (show ∀ z, Sts W (blkP w.heap.size (.cells zeroPdu 45 (0, 0)) :: blkP q (.cells (s1.cells dv (.slice wa s1.wanted.length wc)) 64 (0, 0)) :: rowP 5 1 dv s1.data.length (u8s s1.data) :: rowP 81 2 (.slice wa s1.wanted.length wc) s1.wanted.length (Fil.rcells s1.wanted) :: l) z → bodyPost _ _ _ _ _ z from ?_) _ (zeroAgain0 (stabC (blkP_stable _ _) (stabC (rowP_stable _ _ _ _ _) (stabC (rowP_stable _ _ _ _ _) HL.out))) HS.out)
  clear HS
  intro z hz
  have e0 : z.cell? ⟨w.heap.size, 0, none⟩ = some (.int .i64 0) := (Sts.boxCell hz 0 _ rfl).1
  have e1 : z.cell? ⟨w.heap.size, 1, none⟩ = some (.int .i64 0) := (Sts.boxCell hz 1 _ rfl).1
  have e2 : z.cell? ⟨w.heap.size, 2, none⟩ = some (.int .i64 0) := (Sts.boxCell hz 2 _ rfl).1
  have e3 : z.cell? ⟨w.heap.size, 3, none⟩ = some (.int .i64 0) := (Sts.boxCell hz 3 _ rfl).1
  have e4 : z.cell? ⟨w.heap.size, 4, none⟩ = some (.string ⟨#[]⟩) := (Sts.boxCell hz 4 _ rfl).1
  have e5 : z.cell? ⟨w.heap.size, 5, none⟩ = some (.int .i64 0) := (Sts.boxCell hz 5 _ rfl).1
  have e6 : z.cell? ⟨w.heap.size, 6, none⟩ = some (.int .i64 0) := (Sts.boxCell hz 6 _ rfl).1
  have e7 : z.cell? ⟨w.heap.size, 7, none⟩ = some (.slice none 0 0) := (Sts.boxCell hz 7 _ rfl).1
  have e8 : z.cell? ⟨w.heap.size, 8, none⟩ = some (.int .u32 0) := (Sts.boxCell hz 8 _ rfl).1
  have e9 : z.cell? ⟨w.heap.size, 9, none⟩ = some (.int .i64 0) := (Sts.boxCell hz 9 _ rfl).1
  have e10 : z.cell? ⟨w.heap.size, 10, none⟩ = some (.slice none 0 0) := (Sts.boxCell hz 10 _ rfl).1
  have HF := hid hz
  clear hz
  refine bodyPost_ret (v := .tuple #[.agg #[.int .i64 0, .int .i64 0, .int .i64 0, .int .i64 0, .string ⟨#[]⟩, .int .i64 0, .int .i64 0, .slice none 0 0, .int .u32 0, .int .i64 0, .slice none 0 0], .bool false]) ?_ rfl ⟨rfl, Sts.shutSrc HF.out.tail⟩
  simp [results, Try.results20, go_sem, e0, e1, e2, e3, e4, e5, e6, e7, e8, e9, e10]
set_option maxRecDepth 100000 in
set_option maxHeartbeats 2000000 in
theorem cNextOff (c1 : s1.susp = false) (c2 : s1.due = false) (c3 : s1.phase = 3) (hn : s1.data.length < 100000000) (hb : ∀ x ∈ s1.data, x < 256) : Calls Try.prog 20 #[.pointer (some ⟨q, 0, none⟩), .int .i64 now] w fun e w' => e = .returned (.tuple #[.agg (Fil.eofP s1 17).cells, .bool true]) ∧ Sts W (srcP q { s1 with phase := 6 } :: l) w' := by
  obtain ⟨dv, wv, h⟩ := Sts.openSrc hs
  obtain ⟨da, dc, hde⟩ := (Rd.of_own (Sts.rowOwn (h.swap)) (u8s_len _)).eq
  rw [u8s_len] at hde
  subst hde
  have hl3 : ∀ B ∈ blkP q (.cells (s.cells (.slice da s.data.length dc) wv) 64 (0, 0)) :: rowP 5 1 (.slice da s.data.length dc) s.data.length (u8s s.data) :: rowP 81 2 wv s.wanted.length (Fil.rcells s.wanted) :: l, Stable B := stabC (blkP_stable _ _) (stabC (rowP_stable _ _ _ _ _) (stabC (rowP_stable _ _ _ _ _) hl))
  have hz : Sts W (blkP w.heap.size (.cells zeroPdu 45 (0, 0)) :: blkP q (.cells (s.cells (.slice da s.data.length dc) wv) 64 (0, 0)) :: rowP 5 1 (.slice da s.data.length dc) s.data.length (u8s s.data) :: rowP 81 2 wv s.wanted.length (Fil.rcells s.wanted) :: l) (w.alloc (.cells #[.int .i64 0, .int .i64 0, .int .i64 0, .int .i64 0, .string ⟨#[]⟩, .int .i64 0, .int .i64 0, .slice none 0 0, .int .u32 0, .int .i64 0, .slice none 0 0] 45)) := h.alloc hl3 (.cells zeroPdu 45 (0, 0))
  have hl6 : ∀ B ∈ blkP w.heap.size (.cells zeroPdu 45 (0, 0)) :: l, Stable B := stabC (blkP_stable _ _) hl
  have hsz0 := Sts.shutSrc (hz.perm ((List.perm_middle (l₁ := [_, _, _]) (l₂ := l)).symm))
  have hP := cPass hl6 q s hsz0 now
  rw [hp1] at hP
  have HP := hid hP
  have k0 := (Sts.srcC hz.swap).k0
  have HOK := hid (cOkS _ q k0)
  have HL6 := hid hl6
  have HL := hid hl
  clear hP hsz0 h hz hs hl6 hl3 k0 hp1 hl
  go_enter Try.func20, Try.ntmps20
  go_wp2_with (first | (go_at_call 59; refine HOK.out.mono ?_; rintro e w2 ⟨rfl, rfl⟩) | (go_at_call 60; refine HP.out.mono ?_; rintro e w1 ⟨rfl, h1⟩; obtain ⟨dv, wv, h2⟩ := Sts.openSrc h1; obtain ⟨wa, wc, rfl⟩ := (RdR.of_own (Sts.rowOwnK h2.third) rfl).eq; have H1 := hid h1; have hC := Sts.srcC h2; have k9 := hC.k9; have k10 := hC.k10; have k11 := hC.k11; have k14 := hC.k14; have k15 := hC.k15; have k19 := hC.k19; rw [c1] at k11; rw [c2] at k19; rw [c3] at k10; have fr10 := hC.fr 10; have st1 := Sts.store (stabC (rowP_stable _ _ _ _ _) (stabC (rowP_stable _ _ _ _ _) HL6.out)) h2 (j := 10) (.int .i64 6); have hs2 := Sts.shutSrc (s := { s1 with phase := 6 }) st1; have HM := hid (cEof HL6.out q { s1 with phase := 6 } hs2 hn hb 17); clear st1 hs2; clear h1 h2 hC) | (go_at_call 62; refine (HM.out).mono ?_; rintro e w2 ⟨he, hw2⟩; obtain rfl : e = .returned (.agg #[.int .i64 3, .int .i64 s1.src, .int .i64 s1.num, .int .i64 s1.cls, .string ⟨#[]⟩, .int .i64 s1.data.length, .int .i64 0, .slice none 0 0, .int .u32 (Fil.sumV s1.data : Nat), .int .i64 17, .slice none 0 0]) := he; have HS := hid (hw2.swap); have fz : ∀ j, World.frozen? w2 ⟨w.heap.size, j, none⟩ = false := fun j => (by obtain ⟨F, hF⟩ := HS.out.head; exact free_blk hF.1); have z0 := (Sts.boxCell HS.out 0 _ rfl).1; have z1 := (Sts.boxCell HS.out 1 _ rfl).1; have z2 := (Sts.boxCell HS.out 2 _ rfl).1; have z3 := (Sts.boxCell HS.out 3 _ rfl).1; have z4 := (Sts.boxCell HS.out 4 _ rfl).1; have z5 := (Sts.boxCell HS.out 5 _ rfl).1; have z6 := (Sts.boxCell HS.out 6 _ rfl).1; have z7 := (Sts.boxCell HS.out 7 _ rfl).1; have z8 := (Sts.boxCell HS.out 8 _ rfl).1; have z9 := (Sts.boxCell HS.out 9 _ rfl).1; have z10 := (Sts.boxCell HS.out 10 _ rfl).1; clear hw2))
  have hf := Sts.storeAll (stabC (srcP_stable _ _) HL.out) (Fil.eofP s1 17).cells.toList 0 _ _ HS.out
  rw [show putAll 0 (Fil.eofP s1 17).cells.toList zeroPdu = (Fil.eofP s1 17).cells by kernel_rfl] at hf
  clear HS fz z0 z1 z2 z3 z4 z5 z6 z7 z8 z9 z10
  refine (show ∀ z, Sts W (blkP w.heap.size (.cells (Fil.eofP s1 17).cells 45 (0, 0)) :: srcP q { s1 with phase := 6 } :: l) z → bodyPost _ _ _ _ _ z from ?_) _ (hf)
  clear hf
  intro z hz
  have e0 : z.cell? ⟨w.heap.size, 0, none⟩ = some (.int .i64 3) := (Sts.boxCell hz 0 _ rfl).1
  have e1 : z.cell? ⟨w.heap.size, 1, none⟩ = some (.int .i64 s1.src) := (Sts.boxCell hz 1 _ rfl).1
  have e2 : z.cell? ⟨w.heap.size, 2, none⟩ = some (.int .i64 s1.num) := (Sts.boxCell hz 2 _ rfl).1
  have e3 : z.cell? ⟨w.heap.size, 3, none⟩ = some (.int .i64 s1.cls) := (Sts.boxCell hz 3 _ rfl).1
  have e4 : z.cell? ⟨w.heap.size, 4, none⟩ = some (.string ⟨#[]⟩) := (Sts.boxCell hz 4 _ rfl).1
  have e5 : z.cell? ⟨w.heap.size, 5, none⟩ = some (.int .i64 s1.data.length) := (Sts.boxCell hz 5 _ rfl).1
  have e6 : z.cell? ⟨w.heap.size, 6, none⟩ = some (.int .i64 0) := (Sts.boxCell hz 6 _ rfl).1
  have e7 : z.cell? ⟨w.heap.size, 7, none⟩ = some (.slice none 0 0) := (Sts.boxCell hz 7 _ rfl).1
  have e8 : z.cell? ⟨w.heap.size, 8, none⟩ = some (.int .u32 (Fil.sumV s1.data : Nat)) := (Sts.boxCell hz 8 _ rfl).1
  have e9 : z.cell? ⟨w.heap.size, 9, none⟩ = some (.int .i64 17) := (Sts.boxCell hz 9 _ rfl).1
  have e10 : z.cell? ⟨w.heap.size, 10, none⟩ = some (.slice none 0 0) := (Sts.boxCell hz 10 _ rfl).1
  have HF := hid hz
  clear hz
  refine bodyPost_ret (v := .tuple #[.agg #[.int .i64 3, .int .i64 s1.src, .int .i64 s1.num, .int .i64 s1.cls, .string ⟨#[]⟩, .int .i64 s1.data.length, .int .i64 0, .slice none 0 0, .int .u32 (Fil.sumV s1.data : Nat), .int .i64 17, .slice none 0 0], .bool true]) ?_ rfl ⟨rfl, HF.out.tail⟩
  simp [results, Try.results20, go_sem, e0, e1, e2, e3, e4, e5, e6, e7, e8, e9, e10]
set_option maxRecDepth 100000 in
set_option maxHeartbeats 2000000 in
theorem cNextMeta (c1 : s1.susp = false) (c2 : s1.due = false) (c3 : (s1.phase == 3) = false) (c4 : decide (4 ≤ s1.phase) = false) (c5 : s1.mreq = true) : Calls Try.prog 20 #[.pointer (some ⟨q, 0, none⟩), .int .i64 now] w fun e w' => e = .returned (.tuple #[.agg (Fil.headP s1.src s1.num s1.cls s1.name s1.data.length).cells, .bool true]) ∧ Sts W (srcP q { s1 with mreq := false } :: l) w' := by
  obtain ⟨dv, wv, h⟩ := Sts.openSrc hs
  obtain ⟨da, dc, hde⟩ := (Rd.of_own (Sts.rowOwn (h.swap)) (u8s_len _)).eq
  rw [u8s_len] at hde
  subst hde
  have hl3 : ∀ B ∈ blkP q (.cells (s.cells (.slice da s.data.length dc) wv) 64 (0, 0)) :: rowP 5 1 (.slice da s.data.length dc) s.data.length (u8s s.data) :: rowP 81 2 wv s.wanted.length (Fil.rcells s.wanted) :: l, Stable B := stabC (blkP_stable _ _) (stabC (rowP_stable _ _ _ _ _) (stabC (rowP_stable _ _ _ _ _) hl))
  have hz : Sts W (blkP w.heap.size (.cells zeroPdu 45 (0, 0)) :: blkP q (.cells (s.cells (.slice da s.data.length dc) wv) 64 (0, 0)) :: rowP 5 1 (.slice da s.data.length dc) s.data.length (u8s s.data) :: rowP 81 2 wv s.wanted.length (Fil.rcells s.wanted) :: l) (w.alloc (.cells #[.int .i64 0, .int .i64 0, .int .i64 0, .int .i64 0, .string ⟨#[]⟩, .int .i64 0, .int .i64 0, .slice none 0 0, .int .u32 0, .int .i64 0, .slice none 0 0] 45)) := h.alloc hl3 (.cells zeroPdu 45 (0, 0))
  have hl6 : ∀ B ∈ blkP w.heap.size (.cells zeroPdu 45 (0, 0)) :: l, Stable B := stabC (blkP_stable _ _) hl
  have hsz0 := Sts.shutSrc (hz.perm ((List.perm_middle (l₁ := [_, _, _]) (l₂ := l)).symm))
  have hP := cPass hl6 q s hsz0 now
  rw [hp1] at hP
  have HP := hid hP
  have k0 := (Sts.srcC hz.swap).k0
  have HOK := hid (cOkS _ q k0)
  have HL6 := hid hl6
  have HL := hid hl
  clear hP hsz0 h hz hs hl6 hl3 k0 hp1 hl
  go_enter Try.func20, Try.ntmps20
  go_wp2_with (first | (go_at_call 59; refine HOK.out.mono ?_; rintro e w2 ⟨rfl, rfl⟩) | (go_at_call 60; refine HP.out.mono ?_; rintro e w1 ⟨rfl, h1⟩; obtain ⟨dv, wv, h2⟩ := Sts.openSrc h1; obtain ⟨wa, wc, rfl⟩ := (RdR.of_own (Sts.rowOwnK h2.third) rfl).eq; have H1 := hid h1; have hC := Sts.srcC h2; have k9 := hC.k9; have k10 := hC.k10; have k11 := hC.k11; have k14 := hC.k14; have k15 := hC.k15; have k19 := hC.k19; rw [c1] at k11; rw [c2] at k19; rw [c5] at k14; have fr14 := hC.fr 14; have st1 := Sts.store (stabC (rowP_stable _ _ _ _ _) (stabC (rowP_stable _ _ _ _ _) HL6.out)) h2 (j := 14) (.bool false); have hs2 := Sts.shutSrc (s := { s1 with mreq := false }) st1; have HM := hid (cMetadata HL6.out q { s1 with mreq := false } hs2); clear st1 hs2; clear h1 h2 hC) | (go_at_call 63; refine (HM.out).mono ?_; rintro e w2 ⟨he, hw2⟩; obtain rfl : e = .returned (.agg #[.int .i64 1, .int .i64 s1.src, .int .i64 s1.num, .int .i64 s1.cls, .string s1.name, .int .i64 s1.data.length, .int .i64 0, .slice none 0 0, .int .u32 0, .int .i64 0, .slice none 0 0]) := he; have HS := hid (hw2.swap); have fz : ∀ j, World.frozen? w2 ⟨w.heap.size, j, none⟩ = false := fun j => (by obtain ⟨F, hF⟩ := HS.out.head; exact free_blk hF.1); have z0 := (Sts.boxCell HS.out 0 _ rfl).1; have z1 := (Sts.boxCell HS.out 1 _ rfl).1; have z2 := (Sts.boxCell HS.out 2 _ rfl).1; have z3 := (Sts.boxCell HS.out 3 _ rfl).1; have z4 := (Sts.boxCell HS.out 4 _ rfl).1; have z5 := (Sts.boxCell HS.out 5 _ rfl).1; have z6 := (Sts.boxCell HS.out 6 _ rfl).1; have z7 := (Sts.boxCell HS.out 7 _ rfl).1; have z8 := (Sts.boxCell HS.out 8 _ rfl).1; have z9 := (Sts.boxCell HS.out 9 _ rfl).1; have z10 := (Sts.boxCell HS.out 10 _ rfl).1; clear hw2))
  have hf := Sts.storeAll (stabC (srcP_stable _ _) HL.out) (Fil.headP s1.src s1.num s1.cls s1.name s1.data.length).cells.toList 0 _ _ HS.out
  rw [show putAll 0 (Fil.headP s1.src s1.num s1.cls s1.name s1.data.length).cells.toList zeroPdu = (Fil.headP s1.src s1.num s1.cls s1.name s1.data.length).cells by kernel_rfl] at hf
  clear HS fz z0 z1 z2 z3 z4 z5 z6 z7 z8 z9 z10
  refine (show ∀ z, Sts W (blkP w.heap.size (.cells (Fil.headP s1.src s1.num s1.cls s1.name s1.data.length).cells 45 (0, 0)) :: srcP q { s1 with mreq := false } :: l) z → bodyPost _ _ _ _ _ z from ?_) _ (hf)
  clear hf
  intro z hz
  have e0 : z.cell? ⟨w.heap.size, 0, none⟩ = some (.int .i64 1) := (Sts.boxCell hz 0 _ rfl).1
  have e1 : z.cell? ⟨w.heap.size, 1, none⟩ = some (.int .i64 s1.src) := (Sts.boxCell hz 1 _ rfl).1
  have e2 : z.cell? ⟨w.heap.size, 2, none⟩ = some (.int .i64 s1.num) := (Sts.boxCell hz 2 _ rfl).1
  have e3 : z.cell? ⟨w.heap.size, 3, none⟩ = some (.int .i64 s1.cls) := (Sts.boxCell hz 3 _ rfl).1
  have e4 : z.cell? ⟨w.heap.size, 4, none⟩ = some (.string s1.name) := (Sts.boxCell hz 4 _ rfl).1
  have e5 : z.cell? ⟨w.heap.size, 5, none⟩ = some (.int .i64 s1.data.length) := (Sts.boxCell hz 5 _ rfl).1
  have e6 : z.cell? ⟨w.heap.size, 6, none⟩ = some (.int .i64 0) := (Sts.boxCell hz 6 _ rfl).1
  have e7 : z.cell? ⟨w.heap.size, 7, none⟩ = some (.slice none 0 0) := (Sts.boxCell hz 7 _ rfl).1
  have e8 : z.cell? ⟨w.heap.size, 8, none⟩ = some (.int .u32 0) := (Sts.boxCell hz 8 _ rfl).1
  have e9 : z.cell? ⟨w.heap.size, 9, none⟩ = some (.int .i64 0) := (Sts.boxCell hz 9 _ rfl).1
  have e10 : z.cell? ⟨w.heap.size, 10, none⟩ = some (.slice none 0 0) := (Sts.boxCell hz 10 _ rfl).1
  have HF := hid hz
  clear hz
  refine bodyPost_ret (v := .tuple #[.agg #[.int .i64 1, .int .i64 s1.src, .int .i64 s1.num, .int .i64 s1.cls, .string s1.name, .int .i64 s1.data.length, .int .i64 0, .slice none 0 0, .int .u32 0, .int .i64 0, .slice none 0 0], .bool true]) ?_ rfl ⟨rfl, HF.out.tail⟩
  simp [results, Try.results20, go_sem, e0, e1, e2, e3, e4, e5, e6, e7, e8, e9, e10]
set_option maxRecDepth 100000 in
set_option maxHeartbeats 2000000 in
theorem cNextAgain (c1 : s1.susp = false) (c2 : s1.due = false) (c3 : (s1.phase == 3) = false) (c4 : decide (4 ≤ s1.phase) = false) (c5 : s1.mreq = false) (m : Nat) (c6 : s1.wanted.length = m + 1) (hn : s1.data.length < 100000000) (hb : ∀ x ∈ s1.data, x < 256) (f t c tt : Nat) (rest : List Rng.R) (hw : s1.wanted = ((f : Int), (t : Int)) :: rest) (hft : f < t) (ht : t ≤ s1.data.length) (h2x : s1.chunk = (c : Int)) (h4 : 0 < c ∧ c ≤ 512) (h5 : tt = min t (f + c)) (hwl : s1.wanted.length < 400000) : Calls Try.prog 20 #[.pointer (some ⟨q, 0, none⟩), .int .i64 now] w fun e w' => ∃ pa pc, e = .returned (.tuple #[.agg (Fil.pieceP s1 f pa ((s1.data.drop f).take (tt - f)) pc).cells, .bool true]) ∧ Sts W (srcP q { s1 with wanted := Rng.remV s1.wanted ((f : Int), (tt : Int)) } :: rowP 5 1 (.slice pa ((s1.data.drop f).take (tt - f)).length pc) ((s1.data.drop f).take (tt - f)).length (u8s ((s1.data.drop f).take (tt - f))) :: l) w' := by
  obtain ⟨sub, hsub⟩ : ∃ sub, sub = ((s1.data.drop f).take (tt - f)) := ⟨_, rfl⟩
  rw [← hsub]
  replace hsub := hid hsub
  obtain ⟨dv, wv, h⟩ := Sts.openSrc hs
  obtain ⟨da, dc, hde⟩ := (Rd.of_own (Sts.rowOwn (h.swap)) (u8s_len _)).eq
  rw [u8s_len] at hde
  subst hde
  have hl3 : ∀ B ∈ blkP q (.cells (s.cells (.slice da s.data.length dc) wv) 64 (0, 0)) :: rowP 5 1 (.slice da s.data.length dc) s.data.length (u8s s.data) :: rowP 81 2 wv s.wanted.length (Fil.rcells s.wanted) :: l, Stable B := stabC (blkP_stable _ _) (stabC (rowP_stable _ _ _ _ _) (stabC (rowP_stable _ _ _ _ _) hl))
  have hz : Sts W (blkP w.heap.size (.cells zeroPdu 45 (0, 0)) :: blkP q (.cells (s.cells (.slice da s.data.length dc) wv) 64 (0, 0)) :: rowP 5 1 (.slice da s.data.length dc) s.data.length (u8s s.data) :: rowP 81 2 wv s.wanted.length (Fil.rcells s.wanted) :: l) (w.alloc (.cells #[.int .i64 0, .int .i64 0, .int .i64 0, .int .i64 0, .string ⟨#[]⟩, .int .i64 0, .int .i64 0, .slice none 0 0, .int .u32 0, .int .i64 0, .slice none 0 0] 45)) := h.alloc hl3 (.cells zeroPdu 45 (0, 0))
  have hl6 : ∀ B ∈ blkP w.heap.size (.cells zeroPdu 45 (0, 0)) :: l, Stable B := stabC (blkP_stable _ _) hl
  have hsz0 := Sts.shutSrc (hz.perm ((List.perm_middle (l₁ := [_, _, _]) (l₂ := l)).symm))
  have hP := cPass hl6 q s hsz0 now
  rw [hp1] at hP
  have HP := hid hP
  have k0 := (Sts.srcC hz.swap).k0
  have HOK := hid (cOkS _ q k0)
  have HL6 := hid hl6
  have HL := hid hl
  clear hP hsz0 h hz hs hl6 hl3 k0 hp1 hl
  go_enter Try.func20, Try.ntmps20
  go_wp2_with (first | (go_at_call 59; refine HOK.out.mono ?_; rintro e w2 ⟨rfl, rfl⟩) | (go_at_call 60; refine HP.out.mono ?_; rintro e w1 ⟨rfl, h1⟩; obtain ⟨dv, wv, h2⟩ := Sts.openSrc h1; obtain ⟨wa, wc, rfl⟩ := (RdR.of_own (Sts.rowOwnK h2.third) rfl).eq; have H1 := hid h1; have hC := Sts.srcC h2; have k9 := hC.k9; have k10 := hC.k10; have k11 := hC.k11; have k14 := hC.k14; have k15 := hC.k15; have k19 := hC.k19; rw [c1] at k11; rw [c2] at k19; rw [c5] at k14; rw [c6] at k15; have hpos : decide (((m + 1 : Nat) : Int) > 0) = true := (by simp); have hA := cAgainS HL6.out q s1 H1.out hn hb f t c tt rest hw hft ht h2x h4 h5 hwl; rw [← hsub.out] at hA; have HM := hid hA; clear hA; clear h1 h2 hC) | (go_at_call 64; refine HM.out.mono ?_; rintro e w2 ⟨pa, pc, he, hw2⟩; obtain rfl : e = .returned (.agg #[.int .i64 2, .int .i64 s1.src, .int .i64 s1.num, .int .i64 0, .string ⟨#[]⟩, .int .i64 0, .int .i64 (f : Nat), .slice pa sub.length pc, .int .u32 0, .int .i64 0, .slice none 0 0]) := he; have HS := hid (hw2.perm (List.perm_middle (l₁ := [_, _]) (l₂ := l))); have fz : ∀ j, World.frozen? w2 ⟨w.heap.size, j, none⟩ = false := fun j => (by obtain ⟨F, hF⟩ := HS.out.head; exact free_blk hF.1); have z0 := (Sts.boxCell HS.out 0 _ rfl).1; have z1 := (Sts.boxCell HS.out 1 _ rfl).1; have z2 := (Sts.boxCell HS.out 2 _ rfl).1; have z3 := (Sts.boxCell HS.out 3 _ rfl).1; have z4 := (Sts.boxCell HS.out 4 _ rfl).1; have z5 := (Sts.boxCell HS.out 5 _ rfl).1; have z6 := (Sts.boxCell HS.out 6 _ rfl).1; have z7 := (Sts.boxCell HS.out 7 _ rfl).1; have z8 := (Sts.boxCell HS.out 8 _ rfl).1; have z9 := (Sts.boxCell HS.out 9 _ rfl).1; have z10 := (Sts.boxCell HS.out 10 _ rfl).1; clear hw2))
  have hf := Sts.storeAll (stabC (srcP_stable _ _) (stabC (rowP_stable _ _ _ _ _) HL.out)) (Fil.pieceP s1 f pa sub pc).cells.toList 0 _ _ HS.out
  rw [show putAll 0 (Fil.pieceP s1 f pa sub pc).cells.toList zeroPdu = (Fil.pieceP s1 f pa sub pc).cells by kernel_rfl] at hf
  clear HS fz z0 z1 z2 z3 z4 z5 z6 z7 z8 z9 z10
  refine (show ∀ z, Sts W (blkP w.heap.size (.cells (Fil.pieceP s1 f pa sub pc).cells 45 (0, 0)) :: srcP q { s1 with wanted := Rng.remV s1.wanted ((f : Int), (tt : Int)) } :: rowP 5 1 (.slice pa sub.length pc) sub.length (u8s sub) :: l) z → bodyPost _ _ _ _ _ z from ?_) _ (hf)
  clear hf
  intro z hz
  have e0 : z.cell? ⟨w.heap.size, 0, none⟩ = some (.int .i64 2) := (Sts.boxCell hz 0 _ rfl).1
  have e1 : z.cell? ⟨w.heap.size, 1, none⟩ = some (.int .i64 s1.src) := (Sts.boxCell hz 1 _ rfl).1
  have e2 : z.cell? ⟨w.heap.size, 2, none⟩ = some (.int .i64 s1.num) := (Sts.boxCell hz 2 _ rfl).1
  have e3 : z.cell? ⟨w.heap.size, 3, none⟩ = some (.int .i64 0) := (Sts.boxCell hz 3 _ rfl).1
  have e4 : z.cell? ⟨w.heap.size, 4, none⟩ = some (.string ⟨#[]⟩) := (Sts.boxCell hz 4 _ rfl).1
  have e5 : z.cell? ⟨w.heap.size, 5, none⟩ = some (.int .i64 0) := (Sts.boxCell hz 5 _ rfl).1
  have e6 : z.cell? ⟨w.heap.size, 6, none⟩ = some (.int .i64 (f : Nat)) := (Sts.boxCell hz 6 _ rfl).1
  have e7 : z.cell? ⟨w.heap.size, 7, none⟩ = some (.slice pa sub.length pc) := (Sts.boxCell hz 7 _ rfl).1
  have e8 : z.cell? ⟨w.heap.size, 8, none⟩ = some (.int .u32 0) := (Sts.boxCell hz 8 _ rfl).1
  have e9 : z.cell? ⟨w.heap.size, 9, none⟩ = some (.int .i64 0) := (Sts.boxCell hz 9 _ rfl).1
  have e10 : z.cell? ⟨w.heap.size, 10, none⟩ = some (.slice none 0 0) := (Sts.boxCell hz 10 _ rfl).1
  have HF := hid hz
  clear hz
  refine bodyPost_ret (v := .tuple #[.agg #[.int .i64 2, .int .i64 s1.src, .int .i64 s1.num, .int .i64 0, .string ⟨#[]⟩, .int .i64 0, .int .i64 (f : Nat), .slice pa sub.length pc, .int .u32 0, .int .i64 0, .slice none 0 0], .bool true]) ?_ rfl ⟨pa, pc, rfl, HF.out.tail⟩
  simp [results, Try.results20, go_sem, e0, e1, e2, e3, e4, e5, e6, e7, e8, e9, e10]
set_option maxRecDepth 100000 in
set_option maxHeartbeats 2000000 in
theorem cNextFwdHead (c1 : s1.susp = false) (c2 : s1.due = false) (c3 : s1.phase = 0) (c5 : s1.mreq = false) (c6 : s1.wanted.length = 0) (h0 : s1.started = false) : Calls Try.prog 20 #[.pointer (some ⟨q, 0, none⟩), .int .i64 now] w fun e w' => e = .returned (.tuple #[.agg (Fil.headP s1.src s1.num s1.cls s1.name s1.data.length).cells, .bool true]) ∧ Sts W (srcP q { s1 with started := true } :: l) w' := by
  obtain ⟨dv, wv, h⟩ := Sts.openSrc hs
  obtain ⟨da, dc, hde⟩ := (Rd.of_own (Sts.rowOwn (h.swap)) (u8s_len _)).eq
  rw [u8s_len] at hde
  subst hde
  have hl3 : ∀ B ∈ blkP q (.cells (s.cells (.slice da s.data.length dc) wv) 64 (0, 0)) :: rowP 5 1 (.slice da s.data.length dc) s.data.length (u8s s.data) :: rowP 81 2 wv s.wanted.length (Fil.rcells s.wanted) :: l, Stable B := stabC (blkP_stable _ _) (stabC (rowP_stable _ _ _ _ _) (stabC (rowP_stable _ _ _ _ _) hl))
  have hz : Sts W (blkP w.heap.size (.cells zeroPdu 45 (0, 0)) :: blkP q (.cells (s.cells (.slice da s.data.length dc) wv) 64 (0, 0)) :: rowP 5 1 (.slice da s.data.length dc) s.data.length (u8s s.data) :: rowP 81 2 wv s.wanted.length (Fil.rcells s.wanted) :: l) (w.alloc (.cells #[.int .i64 0, .int .i64 0, .int .i64 0, .int .i64 0, .string ⟨#[]⟩, .int .i64 0, .int .i64 0, .slice none 0 0, .int .u32 0, .int .i64 0, .slice none 0 0] 45)) := h.alloc hl3 (.cells zeroPdu 45 (0, 0))
  have hl6 : ∀ B ∈ blkP w.heap.size (.cells zeroPdu 45 (0, 0)) :: l, Stable B := stabC (blkP_stable _ _) hl
  have hsz0 := Sts.shutSrc (hz.perm ((List.perm_middle (l₁ := [_, _, _]) (l₂ := l)).symm))
  have hP := cPass hl6 q s hsz0 now
  rw [hp1] at hP
  have HP := hid hP
  have k0 := (Sts.srcC hz.swap).k0
  have HOK := hid (cOkS _ q k0)
  have HL6 := hid hl6
  have HL := hid hl
  clear hP hsz0 h hz hs hl6 hl3 k0 hp1 hl
  go_enter Try.func20, Try.ntmps20
  go_wp2_with (first | (go_at_call 59; refine HOK.out.mono ?_; rintro e w2 ⟨rfl, rfl⟩) | (go_at_call 60; refine HP.out.mono ?_; rintro e w1 ⟨rfl, h1⟩; obtain ⟨dv, wv, h2⟩ := Sts.openSrc h1; obtain ⟨wa, wc, rfl⟩ := (RdR.of_own (Sts.rowOwnK h2.third) rfl).eq; have H1 := hid h1; have hC := Sts.srcC h2; have k9 := hC.k9; have k10 := hC.k10; have k11 := hC.k11; have k14 := hC.k14; have k15 := hC.k15; have k19 := hC.k19; rw [c1] at k11; rw [c2] at k19; rw [c5] at k14; rw [c6] at k15; rw [c3] at k10; have HM := hid (cFwdMeta HL6.out q s1 H1.out h0); clear h1 h2 hC) | (go_at_call 65; refine (HM.out).mono ?_; rintro e w2 ⟨he, hw2⟩; obtain rfl : e = .returned (.agg #[.int .i64 1, .int .i64 s1.src, .int .i64 s1.num, .int .i64 s1.cls, .string s1.name, .int .i64 s1.data.length, .int .i64 0, .slice none 0 0, .int .u32 0, .int .i64 0, .slice none 0 0]) := he; have HS := hid (hw2.swap); have fz : ∀ j, World.frozen? w2 ⟨w.heap.size, j, none⟩ = false := fun j => (by obtain ⟨F, hF⟩ := HS.out.head; exact free_blk hF.1); have z0 := (Sts.boxCell HS.out 0 _ rfl).1; have z1 := (Sts.boxCell HS.out 1 _ rfl).1; have z2 := (Sts.boxCell HS.out 2 _ rfl).1; have z3 := (Sts.boxCell HS.out 3 _ rfl).1; have z4 := (Sts.boxCell HS.out 4 _ rfl).1; have z5 := (Sts.boxCell HS.out 5 _ rfl).1; have z6 := (Sts.boxCell HS.out 6 _ rfl).1; have z7 := (Sts.boxCell HS.out 7 _ rfl).1; have z8 := (Sts.boxCell HS.out 8 _ rfl).1; have z9 := (Sts.boxCell HS.out 9 _ rfl).1; have z10 := (Sts.boxCell HS.out 10 _ rfl).1; clear hw2))
  have hf := Sts.storeAll (stabC (srcP_stable _ _) HL.out) (Fil.headP s1.src s1.num s1.cls s1.name s1.data.length).cells.toList 0 _ _ HS.out
  rw [show putAll 0 (Fil.headP s1.src s1.num s1.cls s1.name s1.data.length).cells.toList zeroPdu = (Fil.headP s1.src s1.num s1.cls s1.name s1.data.length).cells by kernel_rfl] at hf
  clear HS fz z0 z1 z2 z3 z4 z5 z6 z7 z8 z9 z10
  refine (show ∀ z, Sts W (blkP w.heap.size (.cells (Fil.headP s1.src s1.num s1.cls s1.name s1.data.length).cells 45 (0, 0)) :: srcP q { s1 with started := true } :: l) z → bodyPost _ _ _ _ _ z from ?_) _ (hf)
  clear hf
  intro z hz
  have e0 : z.cell? ⟨w.heap.size, 0, none⟩ = some (.int .i64 1) := (Sts.boxCell hz 0 _ rfl).1
  have e1 : z.cell? ⟨w.heap.size, 1, none⟩ = some (.int .i64 s1.src) := (Sts.boxCell hz 1 _ rfl).1
  have e2 : z.cell? ⟨w.heap.size, 2, none⟩ = some (.int .i64 s1.num) := (Sts.boxCell hz 2 _ rfl).1
  have e3 : z.cell? ⟨w.heap.size, 3, none⟩ = some (.int .i64 s1.cls) := (Sts.boxCell hz 3 _ rfl).1
  have e4 : z.cell? ⟨w.heap.size, 4, none⟩ = some (.string s1.name) := (Sts.boxCell hz 4 _ rfl).1
  have e5 : z.cell? ⟨w.heap.size, 5, none⟩ = some (.int .i64 s1.data.length) := (Sts.boxCell hz 5 _ rfl).1
  have e6 : z.cell? ⟨w.heap.size, 6, none⟩ = some (.int .i64 0) := (Sts.boxCell hz 6 _ rfl).1
  have e7 : z.cell? ⟨w.heap.size, 7, none⟩ = some (.slice none 0 0) := (Sts.boxCell hz 7 _ rfl).1
  have e8 : z.cell? ⟨w.heap.size, 8, none⟩ = some (.int .u32 0) := (Sts.boxCell hz 8 _ rfl).1
  have e9 : z.cell? ⟨w.heap.size, 9, none⟩ = some (.int .i64 0) := (Sts.boxCell hz 9 _ rfl).1
  have e10 : z.cell? ⟨w.heap.size, 10, none⟩ = some (.slice none 0 0) := (Sts.boxCell hz 10 _ rfl).1
  have HF := hid hz
  clear hz
  refine bodyPost_ret (v := .tuple #[.agg #[.int .i64 1, .int .i64 s1.src, .int .i64 s1.num, .int .i64 s1.cls, .string s1.name, .int .i64 s1.data.length, .int .i64 0, .slice none 0 0, .int .u32 0, .int .i64 0, .slice none 0 0], .bool true]) ?_ rfl ⟨rfl, HF.out.tail⟩
  simp [results, Try.results20, go_sem, e0, e1, e2, e3, e4, e5, e6, e7, e8, e9, e10]
set_option maxRecDepth 100000 in
set_option maxHeartbeats 2000000 in
theorem cNextFwdPiece (c1 : s1.susp = false) (c2 : s1.due = false) (c3 : s1.phase = 0) (c5 : s1.mreq = false) (c6 : s1.wanted.length = 0) (hn : s1.data.length < 100000000) (hb : ∀ x ∈ s1.data, x < 256) (f c tt : Nat) (h0 : s1.started = true) (h1' : s1.at' = (f : Int)) (h2x : s1.chunk = (c : Int)) (h3 : f < s1.data.length) (h4 : 0 < c ∧ c ≤ 512) (h5 : tt = min (f + c) s1.data.length) : Calls Try.prog 20 #[.pointer (some ⟨q, 0, none⟩), .int .i64 now] w fun e w' => ∃ pa pc, e = .returned (.tuple #[.agg (Fil.pieceP s1 f pa ((s1.data.drop f).take (tt - f)) pc).cells, .bool true]) ∧ Sts W (srcP q { s1 with at' := (tt : Nat) } :: rowP 5 1 (.slice pa ((s1.data.drop f).take (tt - f)).length pc) ((s1.data.drop f).take (tt - f)).length (u8s ((s1.data.drop f).take (tt - f))) :: l) w' := by
  obtain ⟨sub, hsub⟩ : ∃ sub, sub = ((s1.data.drop f).take (tt - f)) := ⟨_, rfl⟩
  rw [← hsub]
  replace hsub := hid hsub
  obtain ⟨dv, wv, h⟩ := Sts.openSrc hs
  obtain ⟨da, dc, hde⟩ := (Rd.of_own (Sts.rowOwn (h.swap)) (u8s_len _)).eq
  rw [u8s_len] at hde
  subst hde
  have hl3 : ∀ B ∈ blkP q (.cells (s.cells (.slice da s.data.length dc) wv) 64 (0, 0)) :: rowP 5 1 (.slice da s.data.length dc) s.data.length (u8s s.data) :: rowP 81 2 wv s.wanted.length (Fil.rcells s.wanted) :: l, Stable B := stabC (blkP_stable _ _) (stabC (rowP_stable _ _ _ _ _) (stabC (rowP_stable _ _ _ _ _) hl))
  have hz : Sts W (blkP w.heap.size (.cells zeroPdu 45 (0, 0)) :: blkP q (.cells (s.cells (.slice da s.data.length dc) wv) 64 (0, 0)) :: rowP 5 1 (.slice da s.data.length dc) s.data.length (u8s s.data) :: rowP 81 2 wv s.wanted.length (Fil.rcells s.wanted) :: l) (w.alloc (.cells #[.int .i64 0, .int .i64 0, .int .i64 0, .int .i64 0, .string ⟨#[]⟩, .int .i64 0, .int .i64 0, .slice none 0 0, .int .u32 0, .int .i64 0, .slice none 0 0] 45)) := h.alloc hl3 (.cells zeroPdu 45 (0, 0))
  have hl6 : ∀ B ∈ blkP w.heap.size (.cells zeroPdu 45 (0, 0)) :: l, Stable B := stabC (blkP_stable _ _) hl
  have hsz0 := Sts.shutSrc (hz.perm ((List.perm_middle (l₁ := [_, _, _]) (l₂ := l)).symm))
  have hP := cPass hl6 q s hsz0 now
  rw [hp1] at hP
  have HP := hid hP
  have k0 := (Sts.srcC hz.swap).k0
  have HOK := hid (cOkS _ q k0)
  have HL6 := hid hl6
  have HL := hid hl
  clear hP hsz0 h hz hs hl6 hl3 k0 hp1 hl
  go_enter Try.func20, Try.ntmps20
  go_wp2_with (first | (go_at_call 59; refine HOK.out.mono ?_; rintro e w2 ⟨rfl, rfl⟩) | (go_at_call 60; refine HP.out.mono ?_; rintro e w1 ⟨rfl, h1⟩; obtain ⟨dv, wv, h2⟩ := Sts.openSrc h1; obtain ⟨wa, wc, rfl⟩ := (RdR.of_own (Sts.rowOwnK h2.third) rfl).eq; have H1 := hid h1; have hC := Sts.srcC h2; have k9 := hC.k9; have k10 := hC.k10; have k11 := hC.k11; have k14 := hC.k14; have k15 := hC.k15; have k19 := hC.k19; rw [c1] at k11; rw [c2] at k19; rw [c5] at k14; rw [c6] at k15; rw [c3] at k10; have hA := cFwdPiece HL6.out q s1 H1.out hn hb f c tt h0 h1' h2x h3 h4 h5; rw [← hsub.out] at hA; have HM := hid hA; clear hA; clear h1 h2 hC) | (go_at_call 65; refine HM.out.mono ?_; rintro e w2 ⟨pa, pc, he, hw2⟩; obtain rfl : e = .returned (.agg #[.int .i64 2, .int .i64 s1.src, .int .i64 s1.num, .int .i64 0, .string ⟨#[]⟩, .int .i64 0, .int .i64 (f : Nat), .slice pa sub.length pc, .int .u32 0, .int .i64 0, .slice none 0 0]) := he; have HS := hid (hw2.perm (List.perm_middle (l₁ := [_, _]) (l₂ := l))); have fz : ∀ j, World.frozen? w2 ⟨w.heap.size, j, none⟩ = false := fun j => (by obtain ⟨F, hF⟩ := HS.out.head; exact free_blk hF.1); have z0 := (Sts.boxCell HS.out 0 _ rfl).1; have z1 := (Sts.boxCell HS.out 1 _ rfl).1; have z2 := (Sts.boxCell HS.out 2 _ rfl).1; have z3 := (Sts.boxCell HS.out 3 _ rfl).1; have z4 := (Sts.boxCell HS.out 4 _ rfl).1; have z5 := (Sts.boxCell HS.out 5 _ rfl).1; have z6 := (Sts.boxCell HS.out 6 _ rfl).1; have z7 := (Sts.boxCell HS.out 7 _ rfl).1; have z8 := (Sts.boxCell HS.out 8 _ rfl).1; have z9 := (Sts.boxCell HS.out 9 _ rfl).1; have z10 := (Sts.boxCell HS.out 10 _ rfl).1; clear hw2))
  have hf := Sts.storeAll (stabC (srcP_stable _ _) (stabC (rowP_stable _ _ _ _ _) HL.out)) (Fil.pieceP s1 f pa sub pc).cells.toList 0 _ _ HS.out
  rw [show putAll 0 (Fil.pieceP s1 f pa sub pc).cells.toList zeroPdu = (Fil.pieceP s1 f pa sub pc).cells by kernel_rfl] at hf
  clear HS fz z0 z1 z2 z3 z4 z5 z6 z7 z8 z9 z10
  refine (show ∀ z, Sts W (blkP w.heap.size (.cells (Fil.pieceP s1 f pa sub pc).cells 45 (0, 0)) :: srcP q { s1 with at' := (tt : Nat) } :: rowP 5 1 (.slice pa sub.length pc) sub.length (u8s sub) :: l) z → bodyPost _ _ _ _ _ z from ?_) _ (hf)
  clear hf
  intro z hz
  have e0 : z.cell? ⟨w.heap.size, 0, none⟩ = some (.int .i64 2) := (Sts.boxCell hz 0 _ rfl).1
  have e1 : z.cell? ⟨w.heap.size, 1, none⟩ = some (.int .i64 s1.src) := (Sts.boxCell hz 1 _ rfl).1
  have e2 : z.cell? ⟨w.heap.size, 2, none⟩ = some (.int .i64 s1.num) := (Sts.boxCell hz 2 _ rfl).1
  have e3 : z.cell? ⟨w.heap.size, 3, none⟩ = some (.int .i64 0) := (Sts.boxCell hz 3 _ rfl).1
  have e4 : z.cell? ⟨w.heap.size, 4, none⟩ = some (.string ⟨#[]⟩) := (Sts.boxCell hz 4 _ rfl).1
  have e5 : z.cell? ⟨w.heap.size, 5, none⟩ = some (.int .i64 0) := (Sts.boxCell hz 5 _ rfl).1
  have e6 : z.cell? ⟨w.heap.size, 6, none⟩ = some (.int .i64 (f : Nat)) := (Sts.boxCell hz 6 _ rfl).1
  have e7 : z.cell? ⟨w.heap.size, 7, none⟩ = some (.slice pa sub.length pc) := (Sts.boxCell hz 7 _ rfl).1
  have e8 : z.cell? ⟨w.heap.size, 8, none⟩ = some (.int .u32 0) := (Sts.boxCell hz 8 _ rfl).1
  have e9 : z.cell? ⟨w.heap.size, 9, none⟩ = some (.int .i64 0) := (Sts.boxCell hz 9 _ rfl).1
  have e10 : z.cell? ⟨w.heap.size, 10, none⟩ = some (.slice none 0 0) := (Sts.boxCell hz 10 _ rfl).1
  have HF := hid hz
  clear hz
  refine bodyPost_ret (v := .tuple #[.agg #[.int .i64 2, .int .i64 s1.src, .int .i64 s1.num, .int .i64 0, .string ⟨#[]⟩, .int .i64 0, .int .i64 (f : Nat), .slice pa sub.length pc, .int .u32 0, .int .i64 0, .slice none 0 0], .bool true]) ?_ rfl ⟨pa, pc, rfl, HF.out.tail⟩
  simp [results, Try.results20, go_sem, e0, e1, e2, e3, e4, e5, e6, e7, e8, e9, e10]
set_option maxRecDepth 100000 in
set_option maxHeartbeats 2000000 in
theorem cNextFwdEof (c1 : s1.susp = false) (c2 : s1.due = false) (c3 : s1.phase = 0) (c5 : s1.mreq = false) (c6 : s1.wanted.length = 0) (hn : s1.data.length < 100000000) (hb : ∀ x ∈ s1.data, x < 256) (h0 : s1.started = true) (h1' : s1.data.length ≤ s1.at') (s2 : Fil.Src) (he2 : (if s1.cls = 2 then ({ s1 with phase := 1, timer := s1.now, tries := 0 } : Fil.Src) else { s1 with phase := 4 }) = s2) : Calls Try.prog 20 #[.pointer (some ⟨q, 0, none⟩), .int .i64 now] w fun e w' => e = .returned (.tuple #[.agg (Fil.eofP s1 0).cells, .bool true]) ∧ Sts W (srcP q s2 :: l) w' := by
  obtain ⟨dv, wv, h⟩ := Sts.openSrc hs
  obtain ⟨da, dc, hde⟩ := (Rd.of_own (Sts.rowOwn (h.swap)) (u8s_len _)).eq
  rw [u8s_len] at hde
  subst hde
  have hl3 : ∀ B ∈ blkP q (.cells (s.cells (.slice da s.data.length dc) wv) 64 (0, 0)) :: rowP 5 1 (.slice da s.data.length dc) s.data.length (u8s s.data) :: rowP 81 2 wv s.wanted.length (Fil.rcells s.wanted) :: l, Stable B := stabC (blkP_stable _ _) (stabC (rowP_stable _ _ _ _ _) (stabC (rowP_stable _ _ _ _ _) hl))
  have hz : Sts W (blkP w.heap.size (.cells zeroPdu 45 (0, 0)) :: blkP q (.cells (s.cells (.slice da s.data.length dc) wv) 64 (0, 0)) :: rowP 5 1 (.slice da s.data.length dc) s.data.length (u8s s.data) :: rowP 81 2 wv s.wanted.length (Fil.rcells s.wanted) :: l) (w.alloc (.cells #[.int .i64 0, .int .i64 0, .int .i64 0, .int .i64 0, .string ⟨#[]⟩, .int .i64 0, .int .i64 0, .slice none 0 0, .int .u32 0, .int .i64 0, .slice none 0 0] 45)) := h.alloc hl3 (.cells zeroPdu 45 (0, 0))
  have hl6 : ∀ B ∈ blkP w.heap.size (.cells zeroPdu 45 (0, 0)) :: l, Stable B := stabC (blkP_stable _ _) hl
  have hsz0 := Sts.shutSrc (hz.perm ((List.perm_middle (l₁ := [_, _, _]) (l₂ := l)).symm))
  have hP := cPass hl6 q s hsz0 now
  rw [hp1] at hP
  have HP := hid hP
  have k0 := (Sts.srcC hz.swap).k0
  have HOK := hid (cOkS _ q k0)
  have HL6 := hid hl6
  have HL := hid hl
  clear hP hsz0 h hz hs hl6 hl3 k0 hp1 hl
  have HE2 := hid he2
  clear he2
  go_enter Try.func20, Try.ntmps20
  go_wp2_with (first | (go_at_call 59; refine HOK.out.mono ?_; rintro e w2 ⟨rfl, rfl⟩) | (go_at_call 60; refine HP.out.mono ?_; rintro e w1 ⟨rfl, h1⟩; obtain ⟨dv, wv, h2⟩ := Sts.openSrc h1; obtain ⟨wa, wc, rfl⟩ := (RdR.of_own (Sts.rowOwnK h2.third) rfl).eq; have H1 := hid h1; have hC := Sts.srcC h2; have k9 := hC.k9; have k10 := hC.k10; have k11 := hC.k11; have k14 := hC.k14; have k15 := hC.k15; have k19 := hC.k19; rw [c1] at k11; rw [c2] at k19; rw [c5] at k14; rw [c6] at k15; rw [c3] at k10; have hA := cFwdEof HL6.out q s1 H1.out hn hb h0 h1'; rw [HE2.out] at hA; have HM := hid hA; clear hA; clear h1 h2 hC) | (go_at_call 65; refine (HM.out).mono ?_; rintro e w2 ⟨he, hw2⟩; obtain rfl : e = .returned (.agg #[.int .i64 3, .int .i64 s1.src, .int .i64 s1.num, .int .i64 s1.cls, .string ⟨#[]⟩, .int .i64 s1.data.length, .int .i64 0, .slice none 0 0, .int .u32 (Fil.sumV s1.data : Nat), .int .i64 0, .slice none 0 0]) := he; have HS := hid (hw2.swap); have fz : ∀ j, World.frozen? w2 ⟨w.heap.size, j, none⟩ = false := fun j => (by obtain ⟨F, hF⟩ := HS.out.head; exact free_blk hF.1); have z0 := (Sts.boxCell HS.out 0 _ rfl).1; have z1 := (Sts.boxCell HS.out 1 _ rfl).1; have z2 := (Sts.boxCell HS.out 2 _ rfl).1; have z3 := (Sts.boxCell HS.out 3 _ rfl).1; have z4 := (Sts.boxCell HS.out 4 _ rfl).1; have z5 := (Sts.boxCell HS.out 5 _ rfl).1; have z6 := (Sts.boxCell HS.out 6 _ rfl).1; have z7 := (Sts.boxCell HS.out 7 _ rfl).1; have z8 := (Sts.boxCell HS.out 8 _ rfl).1; have z9 := (Sts.boxCell HS.out 9 _ rfl).1; have z10 := (Sts.boxCell HS.out 10 _ rfl).1; clear hw2))
  have hf := Sts.storeAll (stabC (srcP_stable _ _) HL.out) (Fil.eofP s1 0).cells.toList 0 _ _ HS.out
  rw [show putAll 0 (Fil.eofP s1 0).cells.toList zeroPdu = (Fil.eofP s1 0).cells by kernel_rfl] at hf
  clear HS fz z0 z1 z2 z3 z4 z5 z6 z7 z8 z9 z10
  refine (show ∀ z, Sts W (blkP w.heap.size (.cells (Fil.eofP s1 0).cells 45 (0, 0)) :: srcP q s2 :: l) z → bodyPost _ _ _ _ _ z from ?_) _ (hf)
  clear hf
  intro z hz
  have e0 : z.cell? ⟨w.heap.size, 0, none⟩ = some (.int .i64 3) := (Sts.boxCell hz 0 _ rfl).1
  have e1 : z.cell? ⟨w.heap.size, 1, none⟩ = some (.int .i64 s1.src) := (Sts.boxCell hz 1 _ rfl).1
  have e2 : z.cell? ⟨w.heap.size, 2, none⟩ = some (.int .i64 s1.num) := (Sts.boxCell hz 2 _ rfl).1
  have e3 : z.cell? ⟨w.heap.size, 3, none⟩ = some (.int .i64 s1.cls) := (Sts.boxCell hz 3 _ rfl).1
  have e4 : z.cell? ⟨w.heap.size, 4, none⟩ = some (.string ⟨#[]⟩) := (Sts.boxCell hz 4 _ rfl).1
  have e5 : z.cell? ⟨w.heap.size, 5, none⟩ = some (.int .i64 s1.data.length) := (Sts.boxCell hz 5 _ rfl).1
  have e6 : z.cell? ⟨w.heap.size, 6, none⟩ = some (.int .i64 0) := (Sts.boxCell hz 6 _ rfl).1
  have e7 : z.cell? ⟨w.heap.size, 7, none⟩ = some (.slice none 0 0) := (Sts.boxCell hz 7 _ rfl).1
  have e8 : z.cell? ⟨w.heap.size, 8, none⟩ = some (.int .u32 (Fil.sumV s1.data : Nat)) := (Sts.boxCell hz 8 _ rfl).1
  have e9 : z.cell? ⟨w.heap.size, 9, none⟩ = some (.int .i64 0) := (Sts.boxCell hz 9 _ rfl).1
  have e10 : z.cell? ⟨w.heap.size, 10, none⟩ = some (.slice none 0 0) := (Sts.boxCell hz 10 _ rfl).1
  have HF := hid hz
  clear hz
  refine bodyPost_ret (v := .tuple #[.agg #[.int .i64 3, .int .i64 s1.src, .int .i64 s1.num, .int .i64 s1.cls, .string ⟨#[]⟩, .int .i64 s1.data.length, .int .i64 0, .slice none 0 0, .int .u32 (Fil.sumV s1.data : Nat), .int .i64 0, .slice none 0 0], .bool true]) ?_ rfl ⟨rfl, HF.out.tail⟩
  simp [results, Try.results20, go_sem, e0, e1, e2, e3, e4, e5, e6, e7, e8, e9, e10]
set_option maxRecDepth 100000 in
set_option maxHeartbeats 2000000 in
theorem cNextRepNo (c1 : s1.susp = false) (c2 : s1.due = false) (c3 : (s1.phase == 3) = false) (c4 : decide (4 ≤ s1.phase) = false) (c5 : s1.mreq = false) (c6 : s1.wanted.length = 0) (c7 : (s1.phase == 0) = false) (hT : 0 ≤ s1.timer + s1.timeout ∧ s1.timer + s1.timeout < 4611686018427387904) (hq : s1.quietB = true) : Calls Try.prog 20 #[.pointer (some ⟨q, 0, none⟩), .int .i64 now] w fun e w' => e = .returned (.tuple #[.agg zeroPdu, .bool false]) ∧ Sts W (srcP q s1 :: l) w' := by
  obtain ⟨dv, wv, h⟩ := Sts.openSrc hs
  obtain ⟨da, dc, hde⟩ := (Rd.of_own (Sts.rowOwn (h.swap)) (u8s_len _)).eq
  rw [u8s_len] at hde
  subst hde
  have hl3 : ∀ B ∈ blkP q (.cells (s.cells (.slice da s.data.length dc) wv) 64 (0, 0)) :: rowP 5 1 (.slice da s.data.length dc) s.data.length (u8s s.data) :: rowP 81 2 wv s.wanted.length (Fil.rcells s.wanted) :: l, Stable B := stabC (blkP_stable _ _) (stabC (rowP_stable _ _ _ _ _) (stabC (rowP_stable _ _ _ _ _) hl))
  have hz : Sts W (blkP w.heap.size (.cells zeroPdu 45 (0, 0)) :: blkP q (.cells (s.cells (.slice da s.data.length dc) wv) 64 (0, 0)) :: rowP 5 1 (.slice da s.data.length dc) s.data.length (u8s s.data) :: rowP 81 2 wv s.wanted.length (Fil.rcells s.wanted) :: l) (w.alloc (.cells #[.int .i64 0, .int .i64 0, .int .i64 0, .int .i64 0, .string ⟨#[]⟩, .int .i64 0, .int .i64 0, .slice none 0 0, .int .u32 0, .int .i64 0, .slice none 0 0] 45)) := h.alloc hl3 (.cells zeroPdu 45 (0, 0))
  have hl6 : ∀ B ∈ blkP w.heap.size (.cells zeroPdu 45 (0, 0)) :: l, Stable B := stabC (blkP_stable _ _) hl
  have hsz0 := Sts.shutSrc (hz.perm ((List.perm_middle (l₁ := [_, _, _]) (l₂ := l)).symm))
  have hP := cPass hl6 q s hsz0 now
  rw [hp1] at hP
  have HP := hid hP
  have k0 := (Sts.srcC hz.swap).k0
  have HOK := hid (cOkS _ q k0)
  have HL6 := hid hl6
  have HL := hid hl
  clear hP hsz0 h hz hs hl6 hl3 k0 hp1 hl
  go_enter Try.func20, Try.ntmps20
  go_wp2_with (first | (go_at_call 59; refine HOK.out.mono ?_; rintro e w2 ⟨rfl, rfl⟩) | (go_at_call 60; refine HP.out.mono ?_; rintro e w1 ⟨rfl, h1⟩; obtain ⟨dv, wv, h2⟩ := Sts.openSrc h1; obtain ⟨wa, wc, rfl⟩ := (RdR.of_own (Sts.rowOwnK h2.third) rfl).eq; have H1 := hid h1; have hC := Sts.srcC h2; have k9 := hC.k9; have k10 := hC.k10; have k11 := hC.k11; have k14 := hC.k14; have k15 := hC.k15; have k19 := hC.k19; rw [c1] at k11; rw [c2] at k19; rw [c5] at k14; rw [c6] at k15; have HM := hid (cRepNo HL6.out q s1 H1.out hT hq); clear h1 h2 hC) | (go_at_call 66; refine (HM.out).mono ?_; rintro e w2 ⟨he, hw2⟩; obtain rfl : e = .returned (.tuple #[.agg #[.int .i64 0, .int .i64 0, .int .i64 0, .int .i64 0, .string ⟨#[]⟩, .int .i64 0, .int .i64 0, .slice none 0 0, .int .u32 0, .int .i64 0, .slice none 0 0], .bool false]) := he; have HS := hid (hw2.swap); have fz : ∀ j, World.frozen? w2 ⟨w.heap.size, j, none⟩ = false := fun j => (by obtain ⟨F, hF⟩ := HS.out.head; exact free_blk hF.1); have z0 := (Sts.boxCell HS.out 0 _ rfl).1; have z1 := (Sts.boxCell HS.out 1 _ rfl).1; have z2 := (Sts.boxCell HS.out 2 _ rfl).1; have z3 := (Sts.boxCell HS.out 3 _ rfl).1; have z4 := (Sts.boxCell HS.out 4 _ rfl).1; have z5 := (Sts.boxCell HS.out 5 _ rfl).1; have z6 := (Sts.boxCell HS.out 6 _ rfl).1; have z7 := (Sts.boxCell HS.out 7 _ rfl).1; have z8 := (Sts.boxCell HS.out 8 _ rfl).1; have z9 := (Sts.boxCell HS.out 9 _ rfl).1; have z10 := (Sts.boxCell HS.out 10 _ rfl).1; clear hw2))
  have hf := Sts.storeAll (stabC (srcP_stable _ _) HL.out) zeroPdu.toList 0 _ _ HS.out
  rw [show putAll 0 zeroPdu.toList zeroPdu = zeroPdu by kernel_rfl] at hf
  clear HS fz z0 z1 z2 z3 z4 z5 z6 z7 z8 z9 z10
  refine (show ∀ z, Sts W (blkP w.heap.size (.cells zeroPdu 45 (0, 0)) :: srcP q s1 :: l) z → bodyPost _ _ _ _ _ z from ?_) _ (hf)
  clear hf
  intro z hz
  have e0 : z.cell? ⟨w.heap.size, 0, none⟩ = some (.int .i64 0) := (Sts.boxCell hz 0 _ rfl).1
  have e1 : z.cell? ⟨w.heap.size, 1, none⟩ = some (.int .i64 0) := (Sts.boxCell hz 1 _ rfl).1
  have e2 : z.cell? ⟨w.heap.size, 2, none⟩ = some (.int .i64 0) := (Sts.boxCell hz 2 _ rfl).1
  have e3 : z.cell? ⟨w.heap.size, 3, none⟩ = some (.int .i64 0) := (Sts.boxCell hz 3 _ rfl).1
  have e4 : z.cell? ⟨w.heap.size, 4, none⟩ = some (.string ⟨#[]⟩) := (Sts.boxCell hz 4 _ rfl).1
  have e5 : z.cell? ⟨w.heap.size, 5, none⟩ = some (.int .i64 0) := (Sts.boxCell hz 5 _ rfl).1
  have e6 : z.cell? ⟨w.heap.size, 6, none⟩ = some (.int .i64 0) := (Sts.boxCell hz 6 _ rfl).1
  have e7 : z.cell? ⟨w.heap.size, 7, none⟩ = some (.slice none 0 0) := (Sts.boxCell hz 7 _ rfl).1
  have e8 : z.cell? ⟨w.heap.size, 8, none⟩ = some (.int .u32 0) := (Sts.boxCell hz 8 _ rfl).1
  have e9 : z.cell? ⟨w.heap.size, 9, none⟩ = some (.int .i64 0) := (Sts.boxCell hz 9 _ rfl).1
  have e10 : z.cell? ⟨w.heap.size, 10, none⟩ = some (.slice none 0 0) := (Sts.boxCell hz 10 _ rfl).1
  have HF := hid hz
  clear hz
  refine bodyPost_ret (v := .tuple #[.agg #[.int .i64 0, .int .i64 0, .int .i64 0, .int .i64 0, .string ⟨#[]⟩, .int .i64 0, .int .i64 0, .slice none 0 0, .int .u32 0, .int .i64 0, .slice none 0 0], .bool false]) ?_ rfl ⟨rfl, HF.out.tail⟩
  simp [results, Try.results20, go_sem, e0, e1, e2, e3, e4, e5, e6, e7, e8, e9, e10]
set_option maxRecDepth 100000 in
set_option maxHeartbeats 2000000 in
theorem cNextRepFail (c1 : s1.susp = false) (c2 : s1.due = false) (c3 : s1.phase = 1) (c5 : s1.mreq = false) (c6 : s1.wanted.length = 0) (ha : s1.acked = false) (hd : decide (s1.now < s1.timer + s1.timeout) = false) (hT : 0 ≤ s1.timer + s1.timeout ∧ s1.timer + s1.timeout < 4611686018427387904) (hr : decide (s1.retries ≤ s1.tries) = true) : Calls Try.prog 20 #[.pointer (some ⟨q, 0, none⟩), .int .i64 now] w fun e w' => e = .returned (.tuple #[.agg zeroPdu, .bool false]) ∧ Sts W (srcP q { s1 with phase := 5, code := 10 } :: l) w' := by
  obtain ⟨dv, wv, h⟩ := Sts.openSrc hs
  obtain ⟨da, dc, hde⟩ := (Rd.of_own (Sts.rowOwn (h.swap)) (u8s_len _)).eq
  rw [u8s_len] at hde
  subst hde
  have hl3 : ∀ B ∈ blkP q (.cells (s.cells (.slice da s.data.length dc) wv) 64 (0, 0)) :: rowP 5 1 (.slice da s.data.length dc) s.data.length (u8s s.data) :: rowP 81 2 wv s.wanted.length (Fil.rcells s.wanted) :: l, Stable B := stabC (blkP_stable _ _) (stabC (rowP_stable _ _ _ _ _) (stabC (rowP_stable _ _ _ _ _) hl))
  have hz : Sts W (blkP w.heap.size (.cells zeroPdu 45 (0, 0)) :: blkP q (.cells (s.cells (.slice da s.data.length dc) wv) 64 (0, 0)) :: rowP 5 1 (.slice da s.data.length dc) s.data.length (u8s s.data) :: rowP 81 2 wv s.wanted.length (Fil.rcells s.wanted) :: l) (w.alloc (.cells #[.int .i64 0, .int .i64 0, .int .i64 0, .int .i64 0, .string ⟨#[]⟩, .int .i64 0, .int .i64 0, .slice none 0 0, .int .u32 0, .int .i64 0, .slice none 0 0] 45)) := h.alloc hl3 (.cells zeroPdu 45 (0, 0))
  have hl6 : ∀ B ∈ blkP w.heap.size (.cells zeroPdu 45 (0, 0)) :: l, Stable B := stabC (blkP_stable _ _) hl
  have hsz0 := Sts.shutSrc (hz.perm ((List.perm_middle (l₁ := [_, _, _]) (l₂ := l)).symm))
  have hP := cPass hl6 q s hsz0 now
  rw [hp1] at hP
  have HP := hid hP
  have k0 := (Sts.srcC hz.swap).k0
  have HOK := hid (cOkS _ q k0)
  have HL6 := hid hl6
  have HL := hid hl
  clear hP hsz0 h hz hs hl6 hl3 k0 hp1 hl
  go_enter Try.func20, Try.ntmps20
  go_wp2_with (first | (go_at_call 59; refine HOK.out.mono ?_; rintro e w2 ⟨rfl, rfl⟩) | (go_at_call 60; refine HP.out.mono ?_; rintro e w1 ⟨rfl, h1⟩; obtain ⟨dv, wv, h2⟩ := Sts.openSrc h1; obtain ⟨wa, wc, rfl⟩ := (RdR.of_own (Sts.rowOwnK h2.third) rfl).eq; have H1 := hid h1; have hC := Sts.srcC h2; have k9 := hC.k9; have k10 := hC.k10; have k11 := hC.k11; have k14 := hC.k14; have k15 := hC.k15; have k19 := hC.k19; rw [c1] at k11; rw [c2] at k19; rw [c5] at k14; rw [c6] at k15; rw [c3] at k10; have HM := hid (cRepFail HL6.out q s1 H1.out hT c3 ha hd hr); clear h1 h2 hC) | (go_at_call 66; refine (HM.out).mono ?_; rintro e w2 ⟨he, hw2⟩; obtain rfl : e = .returned (.tuple #[.agg #[.int .i64 0, .int .i64 0, .int .i64 0, .int .i64 0, .string ⟨#[]⟩, .int .i64 0, .int .i64 0, .slice none 0 0, .int .u32 0, .int .i64 0, .slice none 0 0], .bool false]) := he; have HS := hid (hw2.swap); have fz : ∀ j, World.frozen? w2 ⟨w.heap.size, j, none⟩ = false := fun j => (by obtain ⟨F, hF⟩ := HS.out.head; exact free_blk hF.1); have z0 := (Sts.boxCell HS.out 0 _ rfl).1; have z1 := (Sts.boxCell HS.out 1 _ rfl).1; have z2 := (Sts.boxCell HS.out 2 _ rfl).1; have z3 := (Sts.boxCell HS.out 3 _ rfl).1; have z4 := (Sts.boxCell HS.out 4 _ rfl).1; have z5 := (Sts.boxCell HS.out 5 _ rfl).1; have z6 := (Sts.boxCell HS.out 6 _ rfl).1; have z7 := (Sts.boxCell HS.out 7 _ rfl).1; have z8 := (Sts.boxCell HS.out 8 _ rfl).1; have z9 := (Sts.boxCell HS.out 9 _ rfl).1; have z10 := (Sts.boxCell HS.out 10 _ rfl).1; clear hw2))
  have hf := Sts.storeAll (stabC (srcP_stable _ _) HL.out) zeroPdu.toList 0 _ _ HS.out
  rw [show putAll 0 zeroPdu.toList zeroPdu = zeroPdu by kernel_rfl] at hf
  clear HS fz z0 z1 z2 z3 z4 z5 z6 z7 z8 z9 z10
  refine (show ∀ z, Sts W (blkP w.heap.size (.cells zeroPdu 45 (0, 0)) :: srcP q { s1 with phase := 5, code := 10 } :: l) z → bodyPost _ _ _ _ _ z from ?_) _ (hf)
  clear hf
  intro z hz
  have e0 : z.cell? ⟨w.heap.size, 0, none⟩ = some (.int .i64 0) := (Sts.boxCell hz 0 _ rfl).1
  have e1 : z.cell? ⟨w.heap.size, 1, none⟩ = some (.int .i64 0) := (Sts.boxCell hz 1 _ rfl).1
  have e2 : z.cell? ⟨w.heap.size, 2, none⟩ = some (.int .i64 0) := (Sts.boxCell hz 2 _ rfl).1
  have e3 : z.cell? ⟨w.heap.size, 3, none⟩ = some (.int .i64 0) := (Sts.boxCell hz 3 _ rfl).1
  have e4 : z.cell? ⟨w.heap.size, 4, none⟩ = some (.string ⟨#[]⟩) := (Sts.boxCell hz 4 _ rfl).1
  have e5 : z.cell? ⟨w.heap.size, 5, none⟩ = some (.int .i64 0) := (Sts.boxCell hz 5 _ rfl).1
  have e6 : z.cell? ⟨w.heap.size, 6, none⟩ = some (.int .i64 0) := (Sts.boxCell hz 6 _ rfl).1
  have e7 : z.cell? ⟨w.heap.size, 7, none⟩ = some (.slice none 0 0) := (Sts.boxCell hz 7 _ rfl).1
  have e8 : z.cell? ⟨w.heap.size, 8, none⟩ = some (.int .u32 0) := (Sts.boxCell hz 8 _ rfl).1
  have e9 : z.cell? ⟨w.heap.size, 9, none⟩ = some (.int .i64 0) := (Sts.boxCell hz 9 _ rfl).1
  have e10 : z.cell? ⟨w.heap.size, 10, none⟩ = some (.slice none 0 0) := (Sts.boxCell hz 10 _ rfl).1
  have HF := hid hz
  clear hz
  refine bodyPost_ret (v := .tuple #[.agg #[.int .i64 0, .int .i64 0, .int .i64 0, .int .i64 0, .string ⟨#[]⟩, .int .i64 0, .int .i64 0, .slice none 0 0, .int .u32 0, .int .i64 0, .slice none 0 0], .bool false]) ?_ rfl ⟨rfl, HF.out.tail⟩
  simp [results, Try.results20, go_sem, e0, e1, e2, e3, e4, e5, e6, e7, e8, e9, e10]
set_option maxRecDepth 100000 in
set_option maxHeartbeats 2000000 in
theorem cNextRepEof (c1 : s1.susp = false) (c2 : s1.due = false) (c3 : s1.phase = 1) (c5 : s1.mreq = false) (c6 : s1.wanted.length = 0) (ha : s1.acked = false) (hd : decide (s1.now < s1.timer + s1.timeout) = false) (hT : 0 ≤ s1.timer + s1.timeout ∧ s1.timer + s1.timeout < 4611686018427387904) (hn : s1.data.length < 100000000) (hb : ∀ x ∈ s1.data, x < 256) (hr : decide (s1.retries ≤ s1.tries) = false) (htr : 0 ≤ s1.tries ∧ s1.tries < 1000000) : Calls Try.prog 20 #[.pointer (some ⟨q, 0, none⟩), .int .i64 now] w fun e w' => e = .returned (.tuple #[.agg (Fil.eofP s1 0).cells, .bool true]) ∧ Sts W (srcP q { s1 with tries := s1.tries + 1, timer := s1.now } :: l) w' := by
  obtain ⟨dv, wv, h⟩ := Sts.openSrc hs
  obtain ⟨da, dc, hde⟩ := (Rd.of_own (Sts.rowOwn (h.swap)) (u8s_len _)).eq
  rw [u8s_len] at hde
  subst hde
  have hl3 : ∀ B ∈ blkP q (.cells (s.cells (.slice da s.data.length dc) wv) 64 (0, 0)) :: rowP 5 1 (.slice da s.data.length dc) s.data.length (u8s s.data) :: rowP 81 2 wv s.wanted.length (Fil.rcells s.wanted) :: l, Stable B := stabC (blkP_stable _ _) (stabC (rowP_stable _ _ _ _ _) (stabC (rowP_stable _ _ _ _ _) hl))
  have hz : Sts W (blkP w.heap.size (.cells zeroPdu 45 (0, 0)) :: blkP q (.cells (s.cells (.slice da s.data.length dc) wv) 64 (0, 0)) :: rowP 5 1 (.slice da s.data.length dc) s.data.length (u8s s.data) :: rowP 81 2 wv s.wanted.length (Fil.rcells s.wanted) :: l) (w.alloc (.cells #[.int .i64 0, .int .i64 0, .int .i64 0, .int .i64 0, .string ⟨#[]⟩, .int .i64 0, .int .i64 0, .slice none 0 0, .int .u32 0, .int .i64 0, .slice none 0 0] 45)) := h.alloc hl3 (.cells zeroPdu 45 (0, 0))
  have hl6 : ∀ B ∈ blkP w.heap.size (.cells zeroPdu 45 (0, 0)) :: l, Stable B := stabC (blkP_stable _ _) hl
  have hsz0 := Sts.shutSrc (hz.perm ((List.perm_middle (l₁ := [_, _, _]) (l₂ := l)).symm))
  have hP := cPass hl6 q s hsz0 now
  rw [hp1] at hP
  have HP := hid hP
  have k0 := (Sts.srcC hz.swap).k0
  have HOK := hid (cOkS _ q k0)
  have HL6 := hid hl6
  have HL := hid hl
  clear hP hsz0 h hz hs hl6 hl3 k0 hp1 hl
  go_enter Try.func20, Try.ntmps20
  go_wp2_with (first | (go_at_call 59; refine HOK.out.mono ?_; rintro e w2 ⟨rfl, rfl⟩) | (go_at_call 60; refine HP.out.mono ?_; rintro e w1 ⟨rfl, h1⟩; obtain ⟨dv, wv, h2⟩ := Sts.openSrc h1; obtain ⟨wa, wc, rfl⟩ := (RdR.of_own (Sts.rowOwnK h2.third) rfl).eq; have H1 := hid h1; have hC := Sts.srcC h2; have k9 := hC.k9; have k10 := hC.k10; have k11 := hC.k11; have k14 := hC.k14; have k15 := hC.k15; have k19 := hC.k19; rw [c1] at k11; rw [c2] at k19; rw [c5] at k14; rw [c6] at k15; rw [c3] at k10; have HM := hid (cRepEof HL6.out q s1 H1.out hn hb hT c3 ha hd hr htr); clear h1 h2 hC) | (go_at_call 66; refine (HM.out).mono ?_; rintro e w2 ⟨he, hw2⟩; obtain rfl : e = .returned (.tuple #[.agg #[.int .i64 3, .int .i64 s1.src, .int .i64 s1.num, .int .i64 s1.cls, .string ⟨#[]⟩, .int .i64 s1.data.length, .int .i64 0, .slice none 0 0, .int .u32 (Fil.sumV s1.data : Nat), .int .i64 0, .slice none 0 0], .bool true]) := he; have HS := hid (hw2.swap); have fz : ∀ j, World.frozen? w2 ⟨w.heap.size, j, none⟩ = false := fun j => (by obtain ⟨F, hF⟩ := HS.out.head; exact free_blk hF.1); have z0 := (Sts.boxCell HS.out 0 _ rfl).1; have z1 := (Sts.boxCell HS.out 1 _ rfl).1; have z2 := (Sts.boxCell HS.out 2 _ rfl).1; have z3 := (Sts.boxCell HS.out 3 _ rfl).1; have z4 := (Sts.boxCell HS.out 4 _ rfl).1; have z5 := (Sts.boxCell HS.out 5 _ rfl).1; have z6 := (Sts.boxCell HS.out 6 _ rfl).1; have z7 := (Sts.boxCell HS.out 7 _ rfl).1; have z8 := (Sts.boxCell HS.out 8 _ rfl).1; have z9 := (Sts.boxCell HS.out 9 _ rfl).1; have z10 := (Sts.boxCell HS.out 10 _ rfl).1; clear hw2))
  have hf := Sts.storeAll (stabC (srcP_stable _ _) HL.out) (Fil.eofP s1 0).cells.toList 0 _ _ HS.out
  rw [show putAll 0 (Fil.eofP s1 0).cells.toList zeroPdu = (Fil.eofP s1 0).cells by kernel_rfl] at hf
  clear HS fz z0 z1 z2 z3 z4 z5 z6 z7 z8 z9 z10
  refine (show ∀ z, Sts W (blkP w.heap.size (.cells (Fil.eofP s1 0).cells 45 (0, 0)) :: srcP q { s1 with tries := s1.tries + 1, timer := s1.now } :: l) z → bodyPost _ _ _ _ _ z from ?_) _ (hf)
  clear hf
  intro z hz
  have e0 : z.cell? ⟨w.heap.size, 0, none⟩ = some (.int .i64 3) := (Sts.boxCell hz 0 _ rfl).1
  have e1 : z.cell? ⟨w.heap.size, 1, none⟩ = some (.int .i64 s1.src) := (Sts.boxCell hz 1 _ rfl).1
  have e2 : z.cell? ⟨w.heap.size, 2, none⟩ = some (.int .i64 s1.num) := (Sts.boxCell hz 2 _ rfl).1
  have e3 : z.cell? ⟨w.heap.size, 3, none⟩ = some (.int .i64 s1.cls) := (Sts.boxCell hz 3 _ rfl).1
  have e4 : z.cell? ⟨w.heap.size, 4, none⟩ = some (.string ⟨#[]⟩) := (Sts.boxCell hz 4 _ rfl).1
  have e5 : z.cell? ⟨w.heap.size, 5, none⟩ = some (.int .i64 s1.data.length) := (Sts.boxCell hz 5 _ rfl).1
  have e6 : z.cell? ⟨w.heap.size, 6, none⟩ = some (.int .i64 0) := (Sts.boxCell hz 6 _ rfl).1
  have e7 : z.cell? ⟨w.heap.size, 7, none⟩ = some (.slice none 0 0) := (Sts.boxCell hz 7 _ rfl).1
  have e8 : z.cell? ⟨w.heap.size, 8, none⟩ = some (.int .u32 (Fil.sumV s1.data : Nat)) := (Sts.boxCell hz 8 _ rfl).1
  have e9 : z.cell? ⟨w.heap.size, 9, none⟩ = some (.int .i64 0) := (Sts.boxCell hz 9 _ rfl).1
  have e10 : z.cell? ⟨w.heap.size, 10, none⟩ = some (.slice none 0 0) := (Sts.boxCell hz 10 _ rfl).1
  have HF := hid hz
  clear hz
  refine bodyPost_ret (v := .tuple #[.agg #[.int .i64 3, .int .i64 s1.src, .int .i64 s1.num, .int .i64 s1.cls, .string ⟨#[]⟩, .int .i64 s1.data.length, .int .i64 0, .slice none 0 0, .int .u32 (Fil.sumV s1.data : Nat), .int .i64 0, .slice none 0 0], .bool true]) ?_ rfl ⟨rfl, HF.out.tail⟩
  simp [results, Try.results20, go_sem, e0, e1, e2, e3, e4, e5, e6, e7, e8, e9, e10]
end
end Go.Proofs.Ytfjadhkhmhnccaa
