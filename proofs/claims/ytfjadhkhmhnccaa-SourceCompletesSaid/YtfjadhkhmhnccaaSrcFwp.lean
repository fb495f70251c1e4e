/- The contracts of what the sending end sends forward. The contract of the end that the sending end sends forward. The contract of the piece that the sending end sends forward. -/
import Derived.Test.YtfjadhkhmhnccaaSrcPce
set_option linter.unusedVariables false
set_option linter.unusedSimpArgs false
namespace Go.Proofs.Ytfjadhkhmhnccaa
open Go.RowKit Go.Proofs.Num
section
variable {W w : World} {l : List HProp} (hl : ∀ B ∈ l, Stable B) (q : Nat) (s : Fil.Src) (hs : Sts W (srcP q s :: l) w)
include hl hs
set_option maxRecDepth 100000 in
set_option maxHeartbeats 1000000 in
theorem cFwdMeta (h0 : s.started = false) : Calls Try.prog 65 #[.pointer (some ⟨q, 0, none⟩)] w fun e w' => e = .returned (.agg (Fil.headP s.src s.num s.cls s.name s.data.length).cells) ∧ Sts W (srcP q { s with started := true } :: l) w' := by
  obtain ⟨dv, wv, h⟩ := Sts.openSrc hs
  obtain ⟨da, dc, hde⟩ := (Rd.of_own (Sts.rowOwn (h.swap)) (u8s_len _)).eq
  rw [u8s_len] at hde
  subst hde
  have hl3 : ∀ B ∈ blkP q (.cells (s.cells (.slice da s.data.length dc) wv) 64 (0, 0)) :: rowP 5 1 (.slice da s.data.length dc) s.data.length (u8s s.data) :: rowP 81 2 wv s.wanted.length (Fil.rcells s.wanted) :: l, Stable B := stabC (blkP_stable _ _) (stabC (rowP_stable _ _ _ _ _) (stabC (rowP_stable _ _ _ _ _) hl))
  have hz : Sts W (blkP w.heap.size (.cells zeroPdu 45 (0, 0)) :: blkP q (.cells (s.cells (.slice da s.data.length dc) wv) 64 (0, 0)) :: rowP 5 1 (.slice da s.data.length dc) s.data.length (u8s s.data) :: rowP 81 2 wv s.wanted.length (Fil.rcells s.wanted) :: l) (w.alloc (.cells #[.int .i64 0, .int .i64 0, .int .i64 0, .int .i64 0, .string ⟨#[]⟩, .int .i64 0, .int .i64 0, .slice none 0 0, .int .u32 0, .int .i64 0, .slice none 0 0] 45)) := h.alloc hl3 (.cells zeroPdu 45 (0, 0))
  have hC := Sts.srcC hz.swap
  have k12 := hC.k12
  rw [h0] at k12
  have fr12 := hC.fr 12
  have hl4 : ∀ B ∈ blkP w.heap.size (.cells zeroPdu 45 (0, 0)) :: rowP 5 1 (.slice da s.data.length dc) s.data.length (u8s s.data) :: rowP 81 2 wv s.wanted.length (Fil.rcells s.wanted) :: l, Stable B := stabC (blkP_stable _ _) (stabC (rowP_stable _ _ _ _ _) (stabC (rowP_stable _ _ _ _ _) hl))
  have hl6 : ∀ B ∈ blkP w.heap.size (.cells zeroPdu 45 (0, 0)) :: l, Stable B := stabC (blkP_stable _ _) hl
  have st1 := Sts.store hl4 hz.swap (j := 12) (.bool true)
  have hs1 := Sts.shutSrc (s := { s with started := true }) (dv := .slice da s.data.length dc) (wv := wv) ((st1.swap).perm ((List.perm_middle (l₁ := [_, _, _]) (l₂ := l)).symm))
  have HM := hid (cMetadata hl6 q { s with started := true } hs1)
  clear st1 hs1 hC hz h hs h0
  go_enter Try.func65, Try.ntmps65
  go_wp2_with (first | (go_at_call 63; refine HM.out.mono ?_; rintro e w2 ⟨he, hw2⟩; obtain rfl : e = .returned (.agg #[.int .i64 1, .int .i64 s.src, .int .i64 s.num, .int .i64 s.cls, .string s.name, .int .i64 s.data.length, .int .i64 0, .slice none 0 0, .int .u32 0, .int .i64 0, .slice none 0 0]) := he; have HS := hid (hw2.swap); have fz : ∀ j, w2.frozen? ⟨w.heap.size, j, none⟩ = false := fun j => (by obtain ⟨F, hF⟩ := HS.out.head; exact free_blk hF.1); have z0 := (Sts.boxCell HS.out 0 _ rfl).1; have z1 := (Sts.boxCell HS.out 1 _ rfl).1; have z2 := (Sts.boxCell HS.out 2 _ rfl).1; have z3 := (Sts.boxCell HS.out 3 _ rfl).1; have z4 := (Sts.boxCell HS.out 4 _ rfl).1; have z5 := (Sts.boxCell HS.out 5 _ rfl).1; have z6 := (Sts.boxCell HS.out 6 _ rfl).1; have z7 := (Sts.boxCell HS.out 7 _ rfl).1; have z8 := (Sts.boxCell HS.out 8 _ rfl).1; have z9 := (Sts.boxCell HS.out 9 _ rfl).1; have z10 := (Sts.boxCell HS.out 10 _ rfl).1; clear hw2 HM))
  have hf := Sts.storeAll (stabC (srcP_stable _ _) hl) (Fil.headP s.src s.num s.cls s.name s.data.length).cells.toList 0 _ _ HS.out
  rw [show putAll 0 (Fil.headP s.src s.num s.cls s.name s.data.length).cells.toList zeroPdu = (Fil.headP s.src s.num s.cls s.name s.data.length).cells by kernel_rfl] at hf
  clear HS fz z0 z1 z2 z3 z4 z5 z6 z7 z8 z9 z10
  refine (show ∀ z, Sts W (blkP w.heap.size (.cells (Fil.headP s.src s.num s.cls s.name s.data.length).cells 45 (0, 0)) :: srcP q { s with started := true } :: l) z → bodyPost _ _ _ _ _ z from ?_) _ hf
  clear hf
  intro z hz
  have e0 : z.cell? ⟨w.heap.size, 0, none⟩ = some (.int .i64 1) := (Sts.boxCell hz 0 _ rfl).1
  have e1 : z.cell? ⟨w.heap.size, 1, none⟩ = some (.int .i64 s.src) := (Sts.boxCell hz 1 _ rfl).1
  have e2 : z.cell? ⟨w.heap.size, 2, none⟩ = some (.int .i64 s.num) := (Sts.boxCell hz 2 _ rfl).1
  have e3 : z.cell? ⟨w.heap.size, 3, none⟩ = some (.int .i64 s.cls) := (Sts.boxCell hz 3 _ rfl).1
  have e4 : z.cell? ⟨w.heap.size, 4, none⟩ = some (.string s.name) := (Sts.boxCell hz 4 _ rfl).1
  have e5 : z.cell? ⟨w.heap.size, 5, none⟩ = some (.int .i64 s.data.length) := (Sts.boxCell hz 5 _ rfl).1
  have e6 : z.cell? ⟨w.heap.size, 6, none⟩ = some (.int .i64 0) := (Sts.boxCell hz 6 _ rfl).1
  have e7 : z.cell? ⟨w.heap.size, 7, none⟩ = some (.slice none 0 0) := (Sts.boxCell hz 7 _ rfl).1
  have e8 : z.cell? ⟨w.heap.size, 8, none⟩ = some (.int .u32 0) := (Sts.boxCell hz 8 _ rfl).1
  have e9 : z.cell? ⟨w.heap.size, 9, none⟩ = some (.int .i64 0) := (Sts.boxCell hz 9 _ rfl).1
  have e10 : z.cell? ⟨w.heap.size, 10, none⟩ = some (.slice none 0 0) := (Sts.boxCell hz 10 _ rfl).1
  have HF := hid hz
  clear hz
  refine bodyPost_ret (v := .agg #[.int .i64 1, .int .i64 s.src, .int .i64 s.num, .int .i64 s.cls, .string s.name, .int .i64 s.data.length, .int .i64 0, .slice none 0 0, .int .u32 0, .int .i64 0, .slice none 0 0]) ?_ rfl ⟨rfl, HF.out.tail⟩
  simp [results, Try.results65, go_sem, e0, e1, e2, e3, e4, e5, e6, e7, e8, e9, e10]
end
end Go.Proofs.Ytfjadhkhmhnccaa
namespace Go.Proofs.Ytfjadhkhmhnccaa
open Go.RowKit Go.Proofs.Num
section
variable {W w : World} {l : List HProp} (hl : ∀ B ∈ l, Stable B) (q : Nat) (s : Fil.Src) (hs : Sts W (srcP q s :: l) w) (hn : s.data.length < 100000000) (hb : ∀ x ∈ s.data, x < 256)
include hl hs hn hb
set_option maxRecDepth 100000 in
set_option maxHeartbeats 2000000 in
theorem cFwdEof (h0 : s.started = true) (h1 : s.data.length ≤ s.at') : Calls Try.prog 65 #[.pointer (some ⟨q, 0, none⟩)] w fun e w' => e = .returned (.agg (Fil.eofP s 0).cells) ∧ Sts W (srcP q (if s.cls = 2 then ({ s with phase := 1, timer := s.now, tries := 0 } : Fil.Src) else { s with phase := 4 }) :: l) w' := by
  obtain ⟨dv, wv, h⟩ := Sts.openSrc hs
  obtain ⟨da, dc, hde⟩ := (Rd.of_own (Sts.rowOwn (h.swap)) (u8s_len _)).eq
  rw [u8s_len] at hde
  subst hde
  have hl3 : ∀ B ∈ blkP q (.cells (s.cells (.slice da s.data.length dc) wv) 64 (0, 0)) :: rowP 5 1 (.slice da s.data.length dc) s.data.length (u8s s.data) :: rowP 81 2 wv s.wanted.length (Fil.rcells s.wanted) :: l, Stable B := stabC (blkP_stable _ _) (stabC (rowP_stable _ _ _ _ _) (stabC (rowP_stable _ _ _ _ _) hl))
  have hz : Sts W (blkP w.heap.size (.cells zeroPdu 45 (0, 0)) :: blkP q (.cells (s.cells (.slice da s.data.length dc) wv) 64 (0, 0)) :: rowP 5 1 (.slice da s.data.length dc) s.data.length (u8s s.data) :: rowP 81 2 wv s.wanted.length (Fil.rcells s.wanted) :: l) (w.alloc (.cells #[.int .i64 0, .int .i64 0, .int .i64 0, .int .i64 0, .string ⟨#[]⟩, .int .i64 0, .int .i64 0, .slice none 0 0, .int .u32 0, .int .i64 0, .slice none 0 0] 45)) := h.alloc hl3 (.cells zeroPdu 45 (0, 0))
  have hC := Sts.srcC hz.swap
  have k12 := hC.k12
  rw [h0] at k12
  have k13 := hC.k13
  have k5 := hC.k5
  have k3 := hC.k3
  have k10 := hC.k10
  have fr10 := hC.fr 10
  have d1 : decide (s.at' < (s.data.length : Int)) = false := decide_eq_false (by omega)
  have hl4 : ∀ B ∈ blkP w.heap.size (.cells zeroPdu 45 (0, 0)) :: rowP 5 1 (.slice da s.data.length dc) s.data.length (u8s s.data) :: rowP 81 2 wv s.wanted.length (Fil.rcells s.wanted) :: l, Stable B := stabC (blkP_stable _ _) (stabC (rowP_stable _ _ _ _ _) (stabC (rowP_stable _ _ _ _ _) hl))
  have hl6 : ∀ B ∈ blkP w.heap.size (.cells zeroPdu 45 (0, 0)) :: l, Stable B := stabC (blkP_stable _ _) hl
  clear h0 h1 hC
  rcases Classical.em (s.cls = 2) with hc | hc
  · have e : (if s.cls = 2 then ({ s with phase := 1, timer := s.now, tries := 0 } : Fil.Src) else { s with phase := 4 }) = { s with phase := 1, timer := s.now, tries := 0 } := if_pos hc
    rw [e]
    clear e
    have st1 := Sts.store hl4 hz.swap (j := 10) (.int .i64 4)
    have hB1 := Sts.srcC (dv := .slice da s.data.length dc) (wv := wv) (s := { s with phase := 4 }) st1
    have b1_3 := hB1.k3
    have b1_9 := hB1.k9
    have b1_10 := hB1.k10
    have b1_17 := hB1.k17
    have b1_18 := hB1.k18
    have f1_10 := hB1.fr 10
    have f1_17 := hB1.fr 17
    have f1_18 := hB1.fr 18
    have st2 := Sts.store hl4 st1 (j := 10) (.int .i64 1)
    have hB2 := Sts.srcC (dv := .slice da s.data.length dc) (wv := wv) (s := { s with phase := 1 }) st2
    have b2_3 := hB2.k3
    have b2_9 := hB2.k9
    have b2_10 := hB2.k10
    have b2_17 := hB2.k17
    have b2_18 := hB2.k18
    have f2_10 := hB2.fr 10
    have f2_17 := hB2.fr 17
    have f2_18 := hB2.fr 18
    have st3 := Sts.store hl4 st2 (j := 17) (.int .i64 s.now)
    have hB3 := Sts.srcC (dv := .slice da s.data.length dc) (wv := wv) (s := { s with phase := 1, timer := s.now }) st3
    have b3_3 := hB3.k3
    have b3_9 := hB3.k9
    have b3_10 := hB3.k10
    have b3_17 := hB3.k17
    have b3_18 := hB3.k18
    have f3_10 := hB3.fr 10
    have f3_17 := hB3.fr 17
    have f3_18 := hB3.fr 18
    have st4 := Sts.store hl4 st3 (j := 18) (.int .i64 0)
    have hB4 := Sts.srcC (dv := .slice da s.data.length dc) (wv := wv) (s := { s with phase := 1, timer := s.now, tries := 0 }) st4
    have b4_3 := hB4.k3
    have b4_9 := hB4.k9
    have b4_10 := hB4.k10
    have b4_17 := hB4.k17
    have b4_18 := hB4.k18
    have f4_10 := hB4.fr 10
    have f4_17 := hB4.fr 17
    have f4_18 := hB4.fr 18
    dsimp only at b1_3 b1_9 b1_10 b1_17 b1_18 b2_3 b2_9 b2_10 b2_17 b2_18 b3_3 b3_9 b3_10 b3_17 b3_18 b4_3 b4_9 b4_10 b4_17 b4_18
    simp only [hc] at b1_3 b2_3 b3_3 b4_3
    have hs1 := Sts.shutSrc (s := { s with phase := 1, timer := s.now, tries := 0 }) (dv := .slice da s.data.length dc) (wv := wv) ((st4.swap).perm ((List.perm_middle (l₁ := [_, _, _]) (l₂ := l)).symm))
    have HM := hid (cEof hl6 q { s with phase := 1, timer := s.now, tries := 0 } hs1 hn hb 0)
    clear hs1 hz h hs hc hb st1 hB1 st2 hB2 st3 hB3 st4 hB4
    go_enter Try.func65, Try.ntmps65
    go_wp2_with (first | (go_at_call 62; refine HM.out.mono ?_; rintro e w2 ⟨he, hw2⟩; obtain rfl : e = .returned (.agg #[.int .i64 3, .int .i64 s.src, .int .i64 s.num, .int .i64 s.cls, .string ⟨#[]⟩, .int .i64 s.data.length, .int .i64 0, .slice none 0 0, .int .u32 (Fil.sumV s.data : Nat), .int .i64 0, .slice none 0 0]) := he; have HS := hid (hw2.swap); have fz : ∀ j, w2.frozen? ⟨w.heap.size, j, none⟩ = false := fun j => (by obtain ⟨F, hF⟩ := HS.out.head; exact free_blk hF.1); have z0 := (Sts.boxCell HS.out 0 _ rfl).1; have z1 := (Sts.boxCell HS.out 1 _ rfl).1; have z2 := (Sts.boxCell HS.out 2 _ rfl).1; have z3 := (Sts.boxCell HS.out 3 _ rfl).1; have z4 := (Sts.boxCell HS.out 4 _ rfl).1; have z5 := (Sts.boxCell HS.out 5 _ rfl).1; have z6 := (Sts.boxCell HS.out 6 _ rfl).1; have z7 := (Sts.boxCell HS.out 7 _ rfl).1; have z8 := (Sts.boxCell HS.out 8 _ rfl).1; have z9 := (Sts.boxCell HS.out 9 _ rfl).1; have z10 := (Sts.boxCell HS.out 10 _ rfl).1; clear hw2 HM))
    have hf := Sts.storeAll (stabC (srcP_stable _ _) hl) (Fil.eofP s 0).cells.toList 0 _ _ HS.out
    rw [show putAll 0 (Fil.eofP s 0).cells.toList zeroPdu = (Fil.eofP s 0).cells by kernel_rfl] at hf
    clear HS fz z0 z1 z2 z3 z4 z5 z6 z7 z8 z9 z10
    refine (show ∀ z, Sts W (blkP w.heap.size (.cells (Fil.eofP s 0).cells 45 (0, 0)) :: srcP q { s with phase := 1, timer := s.now, tries := 0 } :: l) z → bodyPost _ _ _ _ _ z from ?_) _ hf
    clear hf
    intro z hz
    have e0 : z.cell? ⟨w.heap.size, 0, none⟩ = some (.int .i64 3) := (Sts.boxCell hz 0 _ rfl).1
    have e1 : z.cell? ⟨w.heap.size, 1, none⟩ = some (.int .i64 s.src) := (Sts.boxCell hz 1 _ rfl).1
    have e2 : z.cell? ⟨w.heap.size, 2, none⟩ = some (.int .i64 s.num) := (Sts.boxCell hz 2 _ rfl).1
    have e3 : z.cell? ⟨w.heap.size, 3, none⟩ = some (.int .i64 s.cls) := (Sts.boxCell hz 3 _ rfl).1
    have e4 : z.cell? ⟨w.heap.size, 4, none⟩ = some (.string ⟨#[]⟩) := (Sts.boxCell hz 4 _ rfl).1
    have e5 : z.cell? ⟨w.heap.size, 5, none⟩ = some (.int .i64 s.data.length) := (Sts.boxCell hz 5 _ rfl).1
    have e6 : z.cell? ⟨w.heap.size, 6, none⟩ = some (.int .i64 0) := (Sts.boxCell hz 6 _ rfl).1
    have e7 : z.cell? ⟨w.heap.size, 7, none⟩ = some (.slice none 0 0) := (Sts.boxCell hz 7 _ rfl).1
    have e8 : z.cell? ⟨w.heap.size, 8, none⟩ = some (.int .u32 (Fil.sumV s.data : Nat)) := (Sts.boxCell hz 8 _ rfl).1
    have e9 : z.cell? ⟨w.heap.size, 9, none⟩ = some (.int .i64 0) := (Sts.boxCell hz 9 _ rfl).1
    have e10 : z.cell? ⟨w.heap.size, 10, none⟩ = some (.slice none 0 0) := (Sts.boxCell hz 10 _ rfl).1
    have HF := hid hz
    clear hz
    refine bodyPost_ret (v := .agg #[.int .i64 3, .int .i64 s.src, .int .i64 s.num, .int .i64 s.cls, .string ⟨#[]⟩, .int .i64 s.data.length, .int .i64 0, .slice none 0 0, .int .u32 (Fil.sumV s.data : Nat), .int .i64 0, .slice none 0 0]) ?_ rfl ⟨rfl, HF.out.tail⟩
    simp [results, Try.results65, go_sem, e0, e1, e2, e3, e4, e5, e6, e7, e8, e9, e10]
  · have e : (if s.cls = 2 then ({ s with phase := 1, timer := s.now, tries := 0 } : Fil.Src) else { s with phase := 4 }) = { s with phase := 4 } := if_neg hc
    rw [e]
    clear e
    have b : (s.cls == 2) = false := by simpa using hc
    have st1 := Sts.store hl4 hz.swap (j := 10) (.int .i64 4)
    have hB1 := Sts.srcC (dv := .slice da s.data.length dc) (wv := wv) (s := { s with phase := 4 }) st1
    have b1_3 := hB1.k3
    have b1_9 := hB1.k9
    have b1_10 := hB1.k10
    have b1_17 := hB1.k17
    have b1_18 := hB1.k18
    have f1_10 := hB1.fr 10
    have f1_17 := hB1.fr 17
    have f1_18 := hB1.fr 18
    dsimp only at b1_3 b1_9 b1_10 b1_17 b1_18
    have hs1 := Sts.shutSrc (s := { s with phase := 4 }) (dv := .slice da s.data.length dc) (wv := wv) ((st1.swap).perm ((List.perm_middle (l₁ := [_, _, _]) (l₂ := l)).symm))
    have HM := hid (cEof hl6 q { s with phase := 4 } hs1 hn hb 0)
    clear hs1 hz h hs hc hb st1 hB1
    go_enter Try.func65, Try.ntmps65
    go_wp2_with (first | (go_at_call 62; refine HM.out.mono ?_; rintro e w2 ⟨he, hw2⟩; obtain rfl : e = .returned (.agg #[.int .i64 3, .int .i64 s.src, .int .i64 s.num, .int .i64 s.cls, .string ⟨#[]⟩, .int .i64 s.data.length, .int .i64 0, .slice none 0 0, .int .u32 (Fil.sumV s.data : Nat), .int .i64 0, .slice none 0 0]) := he; have HS := hid (hw2.swap); have fz : ∀ j, w2.frozen? ⟨w.heap.size, j, none⟩ = false := fun j => (by obtain ⟨F, hF⟩ := HS.out.head; exact free_blk hF.1); have z0 := (Sts.boxCell HS.out 0 _ rfl).1; have z1 := (Sts.boxCell HS.out 1 _ rfl).1; have z2 := (Sts.boxCell HS.out 2 _ rfl).1; have z3 := (Sts.boxCell HS.out 3 _ rfl).1; have z4 := (Sts.boxCell HS.out 4 _ rfl).1; have z5 := (Sts.boxCell HS.out 5 _ rfl).1; have z6 := (Sts.boxCell HS.out 6 _ rfl).1; have z7 := (Sts.boxCell HS.out 7 _ rfl).1; have z8 := (Sts.boxCell HS.out 8 _ rfl).1; have z9 := (Sts.boxCell HS.out 9 _ rfl).1; have z10 := (Sts.boxCell HS.out 10 _ rfl).1; clear hw2 HM))
    have hf := Sts.storeAll (stabC (srcP_stable _ _) hl) (Fil.eofP s 0).cells.toList 0 _ _ HS.out
    rw [show putAll 0 (Fil.eofP s 0).cells.toList zeroPdu = (Fil.eofP s 0).cells by kernel_rfl] at hf
    clear HS fz z0 z1 z2 z3 z4 z5 z6 z7 z8 z9 z10
    refine (show ∀ z, Sts W (blkP w.heap.size (.cells (Fil.eofP s 0).cells 45 (0, 0)) :: srcP q { s with phase := 4 } :: l) z → bodyPost _ _ _ _ _ z from ?_) _ hf
    clear hf
    intro z hz
    have e0 : z.cell? ⟨w.heap.size, 0, none⟩ = some (.int .i64 3) := (Sts.boxCell hz 0 _ rfl).1
    have e1 : z.cell? ⟨w.heap.size, 1, none⟩ = some (.int .i64 s.src) := (Sts.boxCell hz 1 _ rfl).1
    have e2 : z.cell? ⟨w.heap.size, 2, none⟩ = some (.int .i64 s.num) := (Sts.boxCell hz 2 _ rfl).1
    have e3 : z.cell? ⟨w.heap.size, 3, none⟩ = some (.int .i64 s.cls) := (Sts.boxCell hz 3 _ rfl).1
    have e4 : z.cell? ⟨w.heap.size, 4, none⟩ = some (.string ⟨#[]⟩) := (Sts.boxCell hz 4 _ rfl).1
    have e5 : z.cell? ⟨w.heap.size, 5, none⟩ = some (.int .i64 s.data.length) := (Sts.boxCell hz 5 _ rfl).1
    have e6 : z.cell? ⟨w.heap.size, 6, none⟩ = some (.int .i64 0) := (Sts.boxCell hz 6 _ rfl).1
    have e7 : z.cell? ⟨w.heap.size, 7, none⟩ = some (.slice none 0 0) := (Sts.boxCell hz 7 _ rfl).1
    have e8 : z.cell? ⟨w.heap.size, 8, none⟩ = some (.int .u32 (Fil.sumV s.data : Nat)) := (Sts.boxCell hz 8 _ rfl).1
    have e9 : z.cell? ⟨w.heap.size, 9, none⟩ = some (.int .i64 0) := (Sts.boxCell hz 9 _ rfl).1
    have e10 : z.cell? ⟨w.heap.size, 10, none⟩ = some (.slice none 0 0) := (Sts.boxCell hz 10 _ rfl).1
    have HF := hid hz
    clear hz
    refine bodyPost_ret (v := .agg #[.int .i64 3, .int .i64 s.src, .int .i64 s.num, .int .i64 s.cls, .string ⟨#[]⟩, .int .i64 s.data.length, .int .i64 0, .slice none 0 0, .int .u32 (Fil.sumV s.data : Nat), .int .i64 0, .slice none 0 0]) ?_ rfl ⟨rfl, HF.out.tail⟩
    simp [results, Try.results65, go_sem, e0, e1, e2, e3, e4, e5, e6, e7, e8, e9, e10]
end
end Go.Proofs.Ytfjadhkhmhnccaa
namespace Go.Proofs.Ytfjadhkhmhnccaa
open Go.RowKit Go.Proofs.Num
section
variable {W w : World} {l : List HProp} (hl : ∀ B ∈ l, Stable B) (q : Nat) (s : Fil.Src) (hs : Sts W (srcP q s :: l) w) (hn : s.data.length < 100000000) (hb : ∀ x ∈ s.data, x < 256)
include hl hs hn hb
set_option maxRecDepth 100000 in
set_option maxHeartbeats 2000000 in
theorem cFwdPiece (f c t : Nat) (h0 : s.started = true) (h1 : s.at' = (f : Int)) (h2 : s.chunk = (c : Int)) (h3 : f < s.data.length) (h4 : 0 < c ∧ c ≤ 512) (h5 : t = min (f + c) s.data.length) : Calls Try.prog 65 #[.pointer (some ⟨q, 0, none⟩)] w fun e w' => ∃ pa pc, e = .returned (.agg (Fil.pieceP s f pa ((s.data.drop f).take (t - f)) pc).cells) ∧ Sts W (srcP q { s with at' := (t : Nat) } :: rowP 5 1 (.slice pa ((s.data.drop f).take (t - f)).length pc) ((s.data.drop f).take (t - f)).length (u8s ((s.data.drop f).take (t - f))) :: l) w' := by
  obtain ⟨sub, hsub⟩ : ∃ sub, sub = (s.data.drop f).take (t - f) := ⟨_, rfl⟩
  rw [← hsub]
  replace hsub := hid hsub
  obtain ⟨dv, wv, h⟩ := Sts.openSrc hs
  obtain ⟨da, dc, hde⟩ := (Rd.of_own (Sts.rowOwn (h.swap)) (u8s_len _)).eq
  rw [u8s_len] at hde
  subst hde
  have hl3 : ∀ B ∈ blkP q (.cells (s.cells (.slice da s.data.length dc) wv) 64 (0, 0)) :: rowP 5 1 (.slice da s.data.length dc) s.data.length (u8s s.data) :: rowP 81 2 wv s.wanted.length (Fil.rcells s.wanted) :: l, Stable B := stabC (blkP_stable _ _) (stabC (rowP_stable _ _ _ _ _) (stabC (rowP_stable _ _ _ _ _) hl))
  have hz : Sts W (blkP w.heap.size (.cells zeroPdu 45 (0, 0)) :: blkP q (.cells (s.cells (.slice da s.data.length dc) wv) 64 (0, 0)) :: rowP 5 1 (.slice da s.data.length dc) s.data.length (u8s s.data) :: rowP 81 2 wv s.wanted.length (Fil.rcells s.wanted) :: l) (w.alloc (.cells #[.int .i64 0, .int .i64 0, .int .i64 0, .int .i64 0, .string ⟨#[]⟩, .int .i64 0, .int .i64 0, .slice none 0 0, .int .u32 0, .int .i64 0, .slice none 0 0] 45)) := h.alloc hl3 (.cells zeroPdu 45 (0, 0))
  have HS := hid hz
  have hl6 : ∀ B ∈ blkP w.heap.size (.cells zeroPdu 45 (0, 0)) :: l, Stable B := stabC (blkP_stable _ _) hl
  have hC := Sts.srcC hz.swap
  have hl4 : ∀ B ∈ blkP w.heap.size (.cells zeroPdu 45 (0, 0)) :: rowP 5 1 (.slice da s.data.length dc) s.data.length (u8s s.data) :: rowP 81 2 wv s.wanted.length (Fil.rcells s.wanted) :: l, Stable B := stabC (blkP_stable _ _) (stabC (rowP_stable _ _ _ _ _) (stabC (rowP_stable _ _ _ _ _) hl))
  have k12 := hC.k12
  have k13 := hC.k13
  have k5 := hC.k5
  rw [h0] at k12
  have d1 : decide (s.at' < (s.data.length : Int)) = true := decide_eq_true (by omega)
  have hmin : min (IntKind.i64.wrap ((f : Int) + (c : Int))) (s.data.length : Int) = (t : Nat) := by rw [← Int.natCast_add, i64w _ (by omega)]; omega
  have t1 : f < t := by omega
  have t2 : t ≤ s.data.length := by omega
  clear h5
  clear h hz hs hC
  go_enter Try.func65, Try.ntmps65
  go_wp2_with fail
  refine wp_region_ordS (fun i => i == 16) (.pure 0 (.pure 1 (.pure 2 (.pure 3 (.pure 4 (.pure 5 (.pure 6 (.pure 7 (.pure 8 (.pure 9 (.pure 10 (.pure 11 (.pure 12 (.pure 13 (.pure 14 (.pure 15 (.eff 16 .nil))))))))))))))))) (fun y => SrcC y q s (.slice da s.data.length dc) wv) (fun y => Sts W (blkP w.heap.size (.cells zeroPdu 45 (0, 0)) :: blkP q (.cells (s.cells (.slice da s.data.length dc) wv) 64 (0, 0)) :: rowP 5 1 (.slice da s.data.length dc) s.data.length (u8s s.data) :: rowP 81 2 wv s.wanted.length (Fil.rcells s.wanted) :: l) y) (by kernel_rfl) (by kernel_rfl) (HS.out.drew (stabC (blkP_stable _ _) hl3)) (fun _ h => Sts.srcC h.tail) ?_
  iterate 16
    (apply ord_pure (ho := rfl)
     · go_simp
     · intro x hx; have k1 := hx.k1; have k2 := hx.k2; have k3 := hx.k3; have k4 := hx.k4; have k5 := hx.k5; have k6 := hx.k6; have k13 := hx.k13; go_simp; rfl
     apply ord_norm
     · go_simp; rfl)
  apply ord_eff (ho := rfl)
  · go_simp
  intro y hy
  have hCy := Sts.srcC hy.tail
  have k13' := hCy.k13
  have fr13 := hCy.fr 13
  have hy2 := (Sts.store hl4 hy.swap (j := 13) (.int .i64 (t : Nat))).swap
  refine effS_skip (fun _ => True) (fun y => Sts W (blkP w.heap.size (.cells zeroPdu 45 (0, 0)) :: blkP q (.cells (({ s with at' := (t : Nat) } : Fil.Src).cells (.slice da s.data.length dc) wv) 64 (0, 0)) :: rowP 5 1 (.slice da s.data.length dc) s.data.length (u8s s.data) :: rowP 81 2 wv s.wanted.length (Fil.rcells s.wanted) :: l) y) (w := y.setCell ⟨q, 13, none⟩ (.int .i64 (t : Nat))) rfl ?_ hy2 (fun _ _ => trivial) ?_
  · clear hy2 hy hCy
    go_simp
    try rw [hmin]
  clear hy2 hy hCy k13' fr13 y
  apply ord_norm
  · go_simp; rfl
  refine ord_nil fun z hz => ?_
  clear HS k12 k13 k5
  have hC := Sts.srcC (s := { s with at' := (t : Nat) }) hz.tail
  have k13 := hC.k13
  have hs1 := Sts.shutSrc (s := { s with at' := (t : Nat) }) (dv := .slice da s.data.length dc) (wv := wv) ((hz).perm ((List.perm_middle (l₁ := [_, _, _]) (l₂ := l)).symm))
  have HP := cPieceS hl6 q { s with at' := (t : Nat) } hs1 hn hb f t t1 t2
  simp only [] at HP
  rw [← hsub.out] at HP
  have HP := hid HP
  clear hsub
  rw [h1] at *
  clear hs1 hC hz
  go_wp2_with (first | (go_at_call 107; refine HP.out.mono ?_; rintro e w2 ⟨pa, pc, he, hw2⟩; obtain rfl : e = .returned (.agg #[.int .i64 2, .int .i64 s.src, .int .i64 s.num, .int .i64 0, .string ⟨#[]⟩, .int .i64 0, .int .i64 (f : Nat), .slice pa sub.length pc, .int .u32 0, .int .i64 0, .slice none 0 0]) := he; have HS := hid ((hw2).perm (List.perm_middle (l₁ := [_, _]) (l₂ := l))); have fz : ∀ j, w2.frozen? ⟨w.heap.size, j, none⟩ = false := fun j => (by obtain ⟨F, hF⟩ := HS.out.head; exact free_blk hF.1); have z0 := (Sts.boxCell HS.out 0 _ rfl).1; have z1 := (Sts.boxCell HS.out 1 _ rfl).1; have z2 := (Sts.boxCell HS.out 2 _ rfl).1; have z3 := (Sts.boxCell HS.out 3 _ rfl).1; have z4 := (Sts.boxCell HS.out 4 _ rfl).1; have z5 := (Sts.boxCell HS.out 5 _ rfl).1; have z6 := (Sts.boxCell HS.out 6 _ rfl).1; have z7 := (Sts.boxCell HS.out 7 _ rfl).1; have z8 := (Sts.boxCell HS.out 8 _ rfl).1; have z9 := (Sts.boxCell HS.out 9 _ rfl).1; have z10 := (Sts.boxCell HS.out 10 _ rfl).1; clear hw2 HP))
  have hf := Sts.storeAll (stabC (srcP_stable _ _) (stabC (rowP_stable _ _ _ _ _) hl)) (Fil.pieceP s f pa sub pc).cells.toList 0 _ _ HS.out
  rw [show putAll 0 (Fil.pieceP s f pa sub pc).cells.toList zeroPdu = (Fil.pieceP s f pa sub pc).cells by kernel_rfl] at hf
  clear HS fz z0 z1 z2 z3 z4 z5 z6 z7 z8 z9 z10
  refine (show ∀ z, Sts W (blkP w.heap.size (.cells (Fil.pieceP s f pa sub pc).cells 45 (0, 0)) :: srcP q { s with at' := (t : Nat) } :: rowP 5 1 (.slice pa sub.length pc) sub.length (u8s sub) :: l) z → bodyPost _ _ _ _ _ z from ?_) _ hf
  clear hf
  intro z hz
  have e0 : z.cell? ⟨w.heap.size, 0, none⟩ = some (.int .i64 2) := (Sts.boxCell hz 0 _ rfl).1
  have e1 : z.cell? ⟨w.heap.size, 1, none⟩ = some (.int .i64 s.src) := (Sts.boxCell hz 1 _ rfl).1
  have e2 : z.cell? ⟨w.heap.size, 2, none⟩ = some (.int .i64 s.num) := (Sts.boxCell hz 2 _ rfl).1
  have e3 : z.cell? ⟨w.heap.size, 3, none⟩ = some (.int .i64 0) := (Sts.boxCell hz 3 _ rfl).1
  have e4 : z.cell? ⟨w.heap.size, 4, none⟩ = some (.string ⟨#[]⟩) := (Sts.boxCell hz 4 _ rfl).1
  have e5 : z.cell? ⟨w.heap.size, 5, none⟩ = some (.int .i64 0) := (Sts.boxCell hz 5 _ rfl).1
  have e6 : z.cell? ⟨w.heap.size, 6, none⟩ = some (.int .i64 (f : Nat)) := (Sts.boxCell hz 6 _ rfl).1
  have e7 : z.cell? ⟨w.heap.size, 7, none⟩ = some (.slice pa sub.length pc) := (Sts.boxCell hz 7 _ rfl).1
  have e8 : z.cell? ⟨w.heap.size, 8, none⟩ = some (.int .u32 0) := (Sts.boxCell hz 8 _ rfl).1
  have e9 : z.cell? ⟨w.heap.size, 9, none⟩ = some (.int .i64 0) := (Sts.boxCell hz 9 _ rfl).1
  have e10 : z.cell? ⟨w.heap.size, 10, none⟩ = some (.slice none 0 0) := (Sts.boxCell hz 10 _ rfl).1
  have HF := hid hz
  clear hz
  refine bodyPost_ret (v := .agg #[.int .i64 2, .int .i64 s.src, .int .i64 s.num, .int .i64 0, .string ⟨#[]⟩, .int .i64 0, .int .i64 (f : Nat), .slice pa sub.length pc, .int .u32 0, .int .i64 0, .slice none 0 0]) ?_ rfl ⟨pa, pc, rfl, HF.out.tail⟩
  simp [results, Try.results65, go_sem, e0, e1, e2, e3, e4, e5, e6, e7, e8, e9, e10]
end
end Go.Proofs.Ytfjadhkhmhnccaa
