/- The contract of the answer to a Finished. -/
import Derived.Test.YtfjadhkhmhnccaaSrcEof
set_option linter.unusedVariables false
set_option linter.unusedSimpArgs false
namespace Fil
def Src.finV (s : Src) : Src := { s with due := false, phase := if s.phase = 2 then (if s.code = 0 then 4 else 5) else s.phase }
def ackP (s : Src) : Pdu := { kind := 7, src := s.src, num := s.num }
end Fil
namespace Go.Proofs.Ytfjadhkhmhnccaa
open Go.RowKit Go.Proofs.Num
section
variable {W w : World} {l : List HProp} (hl : ∀ B ∈ l, Stable B) (q : Nat) (s : Fil.Src) (hs : Sts W (srcP q s :: l) w)
include hl hs
set_option maxRecDepth 100000 in
set_option maxHeartbeats 1000000 in
theorem cFinish : Calls Try.prog 61 #[.pointer (some ⟨q, 0, none⟩)] w fun e w' => e = .returned (.agg (Fil.ackP s).cells) ∧ Sts W (srcP q s.finV :: l) w' := by
  obtain ⟨dv, wv, h⟩ := Sts.openSrc hs
  obtain ⟨da, dc, hde⟩ := (Rd.of_own (Sts.rowOwn (h.swap)) (u8s_len _)).eq
  rw [u8s_len] at hde
  subst hde
  have hl3 : ∀ B ∈ blkP q (.cells (s.cells (.slice da s.data.length dc) wv) 64 (0, 0)) :: rowP 5 1 (.slice da s.data.length dc) s.data.length (u8s s.data) :: rowP 81 2 wv s.wanted.length (Fil.rcells s.wanted) :: l, Stable B := stabC (blkP_stable _ _) (stabC (rowP_stable _ _ _ _ _) (stabC (rowP_stable _ _ _ _ _) hl))
  have hz : Sts W (blkP w.heap.size (.cells zeroPdu 45 (0, 0)) :: blkP q (.cells (s.cells (.slice da s.data.length dc) wv) 64 (0, 0)) :: rowP 5 1 (.slice da s.data.length dc) s.data.length (u8s s.data) :: rowP 81 2 wv s.wanted.length (Fil.rcells s.wanted) :: l) (w.alloc (.cells #[.int .i64 0, .int .i64 0, .int .i64 0, .int .i64 0, .string ⟨#[]⟩, .int .i64 0, .int .i64 0, .slice none 0 0, .int .u32 0, .int .i64 0, .slice none 0 0] 45)) := h.alloc hl3 (.cells zeroPdu 45 (0, 0))

  have hC := Sts.srcC hz.swap
  have k10 := hC.k10
  have k20 := hC.k20
  have k19 := hC.k19
  have fr19 := hC.fr 19
  have fr10 := hC.fr 10
  have hl4 : ∀ B ∈ blkP w.heap.size (.cells zeroPdu 45 (0, 0)) :: rowP 5 1 (.slice da s.data.length dc) s.data.length (u8s s.data) :: rowP 81 2 wv s.wanted.length (Fil.rcells s.wanted) :: l, Stable B := stabC (blkP_stable _ _) (stabC (rowP_stable _ _ _ _ _) (stabC (rowP_stable _ _ _ _ _) hl))
  have st1 := Sts.store hl4 hz.swap (j := 19) (.bool false)
  rcases (show (s.phase ≠ 2) ∨ (s.phase = 2 ∧ s.code = 0) ∨ (s.phase = 2 ∧ s.code ≠ 0) by omega) with hp | ⟨hp, hc⟩ | ⟨hp, hc⟩
  · have b : (s.phase == 2) = false := by simpa using hp
    have e : s.finV = { s with due := false } := by unfold Fil.Src.finV; rw [if_neg hp]
    rw [e]
    have stf := st1
    have HS : Hid (Sts W (blkP w.heap.size (.cells zeroPdu 45 (0, 0)) :: blkP q (.cells (({ s with due := false } : Fil.Src).cells (.slice da s.data.length dc) wv) 64 (0, 0)) :: rowP 5 1 (.slice da s.data.length dc) s.data.length (u8s s.data) :: rowP 81 2 wv s.wanted.length (Fil.rcells s.wanted) :: l) ((w.alloc (.cells #[.int .i64 0, .int .i64 0, .int .i64 0, .int .i64 0, .string ⟨#[]⟩, .int .i64 0, .int .i64 0, .slice none 0 0, .int .u32 0, .int .i64 0, .slice none 0 0] 45)).setCell ⟨q, 19, none⟩ (.bool false))) := hid (Sts.swap stf)
    have fz : ∀ j, ((w.alloc (.cells #[.int .i64 0, .int .i64 0, .int .i64 0, .int .i64 0, .string ⟨#[]⟩, .int .i64 0, .int .i64 0, .slice none 0 0, .int .u32 0, .int .i64 0, .slice none 0 0] 45)).setCell ⟨q, 19, none⟩ (.bool false)).frozen? ⟨w.heap.size, j, none⟩ = false := fun j => by obtain ⟨F, hF⟩ := HS.out.head; exact free_blk hF.1
    have z0 := (Sts.boxCell HS.out 0 _ rfl).1
    have z1 := (Sts.boxCell HS.out 1 _ rfl).1
    have z2 := (Sts.boxCell HS.out 2 _ rfl).1
    have z3 := (Sts.boxCell HS.out 3 _ rfl).1
    have z4 := (Sts.boxCell HS.out 4 _ rfl).1
    have z5 := (Sts.boxCell HS.out 5 _ rfl).1
    have z6 := (Sts.boxCell HS.out 6 _ rfl).1
    have z7 := (Sts.boxCell HS.out 7 _ rfl).1
    have z8 := (Sts.boxCell HS.out 8 _ rfl).1
    have z9 := (Sts.boxCell HS.out 9 _ rfl).1
    have z10 := (Sts.boxCell HS.out 10 _ rfl).1
    have hC2 := Sts.srcC (s := { s with due := false }) (HS.out.swap)
    have k1 := hC2.k1
    have k2 := hC2.k2
    have kk10 := hC2.k10
    have kk20 := hC2.k20
    clear e
    clear hp stf st1 hC hC2 hz h hs
    go_enter Try.func61, Try.ntmps61
    go_wp2_with fail
    have hf := Sts.storeAll (stabC (blkP_stable _ _) (stabC (rowP_stable _ _ _ _ _) (stabC (rowP_stable _ _ _ _ _) hl))) (Fil.ackP s).cells.toList 0 _ _ HS.out
    rw [show putAll 0 (Fil.ackP s).cells.toList zeroPdu = (Fil.ackP s).cells by kernel_rfl] at hf
    clear HS fz k1 k2 z0 z1 z2 z3 z4 z5 z6 z7 z8 z9 z10
    refine (show ∀ z, Sts W (blkP w.heap.size (.cells (Fil.ackP s).cells 45 (0, 0)) :: blkP q (.cells (({ s with due := false } : Fil.Src).cells (.slice da s.data.length dc) wv) 64 (0, 0)) :: rowP 5 1 (.slice da s.data.length dc) s.data.length (u8s s.data) :: rowP 81 2 wv s.wanted.length (Fil.rcells s.wanted) :: l) z → bodyPost _ _ _ _ _ z from ?_) _ hf
    clear hf
    intro z hz
    have e0 : z.cell? ⟨w.heap.size, 0, none⟩ = some (.int .i64 7) := (Sts.boxCell hz 0 _ rfl).1
    have e1 : z.cell? ⟨w.heap.size, 1, none⟩ = some (.int .i64 s.src) := (Sts.boxCell hz 1 _ rfl).1
    have e2 : z.cell? ⟨w.heap.size, 2, none⟩ = some (.int .i64 s.num) := (Sts.boxCell hz 2 _ rfl).1
    have e3 : z.cell? ⟨w.heap.size, 3, none⟩ = some (.int .i64 0) := (Sts.boxCell hz 3 _ rfl).1
    have e4 : z.cell? ⟨w.heap.size, 4, none⟩ = some (.string ⟨#[]⟩) := (Sts.boxCell hz 4 _ rfl).1
    have e5 : z.cell? ⟨w.heap.size, 5, none⟩ = some (.int .i64 0) := (Sts.boxCell hz 5 _ rfl).1
    have e6 : z.cell? ⟨w.heap.size, 6, none⟩ = some (.int .i64 0) := (Sts.boxCell hz 6 _ rfl).1
    have e7 : z.cell? ⟨w.heap.size, 7, none⟩ = some (.slice none 0 0) := (Sts.boxCell hz 7 _ rfl).1
    have e8 : z.cell? ⟨w.heap.size, 8, none⟩ = some (.int .u32 0) := (Sts.boxCell hz 8 _ rfl).1
    have e9 : z.cell? ⟨w.heap.size, 9, none⟩ = some (.int .i64 0) := (Sts.boxCell hz 9 _ rfl).1
    have e10 : z.cell? ⟨w.heap.size, 10, none⟩ = some (.slice none 0 0) := (Sts.boxCell hz 10 _ rfl).1
    have HF := hid hz
    clear hz
    refine bodyPost_ret (v := .agg #[.int .i64 7, .int .i64 s.src, .int .i64 s.num, .int .i64 0, .string ⟨#[]⟩, .int .i64 0, .int .i64 0, .slice none 0 0, .int .u32 0, .int .i64 0, .slice none 0 0]) ?_ rfl ⟨rfl, Sts.shutSrc (s := { s with due := false }) (HF.out.tail)⟩
    simp [results, Try.results61, go_sem, e0, e1, e2, e3, e4, e5, e6, e7, e8, e9, e10]
  · rw [hp] at k10; rw [hc] at k20
    have e : s.finV = { s with due := false, phase := 4 } := by unfold Fil.Src.finV; rw [if_pos hp, if_pos hc]
    rw [e]
    have hA := Sts.srcC (dv := .slice da s.data.length dc) (wv := wv) (s := { s with due := false }) st1
    have l10 := hA.k10
    have l20 := hA.k20
    have lfr := hA.fr 10
    have st2 := Sts.store hl4 st1 (j := 10) (.int .i64 5)
    simp only [hp] at l10
    simp only [hc] at l20
    have hB := Sts.srcC (dv := .slice da s.data.length dc) (wv := wv) (s := { s with due := false, phase := 5 }) st2
    have m10 := hB.k10
    have m20 := hB.k20
    have mfr := hB.fr 10
    simp only [hc] at m20
    have stf := Sts.store hl4 st2 (j := 10) (.int .i64 4)
    clear hA hB
    have HS : Hid (Sts W (blkP w.heap.size (.cells zeroPdu 45 (0, 0)) :: blkP q (.cells (({ s with due := false, phase := 4 } : Fil.Src).cells (.slice da s.data.length dc) wv) 64 (0, 0)) :: rowP 5 1 (.slice da s.data.length dc) s.data.length (u8s s.data) :: rowP 81 2 wv s.wanted.length (Fil.rcells s.wanted) :: l) ((((w.alloc (.cells #[.int .i64 0, .int .i64 0, .int .i64 0, .int .i64 0, .string ⟨#[]⟩, .int .i64 0, .int .i64 0, .slice none 0 0, .int .u32 0, .int .i64 0, .slice none 0 0] 45)).setCell ⟨q, 19, none⟩ (.bool false)).setCell ⟨q, 10, none⟩ (.int .i64 5)).setCell ⟨q, 10, none⟩ (.int .i64 4))) := hid (Sts.swap stf)
    have fz : ∀ j, ((((w.alloc (.cells #[.int .i64 0, .int .i64 0, .int .i64 0, .int .i64 0, .string ⟨#[]⟩, .int .i64 0, .int .i64 0, .slice none 0 0, .int .u32 0, .int .i64 0, .slice none 0 0] 45)).setCell ⟨q, 19, none⟩ (.bool false)).setCell ⟨q, 10, none⟩ (.int .i64 5)).setCell ⟨q, 10, none⟩ (.int .i64 4)).frozen? ⟨w.heap.size, j, none⟩ = false := fun j => by obtain ⟨F, hF⟩ := HS.out.head; exact free_blk hF.1
    have z0 := (Sts.boxCell HS.out 0 _ rfl).1
    have z1 := (Sts.boxCell HS.out 1 _ rfl).1
    have z2 := (Sts.boxCell HS.out 2 _ rfl).1
    have z3 := (Sts.boxCell HS.out 3 _ rfl).1
    have z4 := (Sts.boxCell HS.out 4 _ rfl).1
    have z5 := (Sts.boxCell HS.out 5 _ rfl).1
    have z6 := (Sts.boxCell HS.out 6 _ rfl).1
    have z7 := (Sts.boxCell HS.out 7 _ rfl).1
    have z8 := (Sts.boxCell HS.out 8 _ rfl).1
    have z9 := (Sts.boxCell HS.out 9 _ rfl).1
    have z10 := (Sts.boxCell HS.out 10 _ rfl).1
    have hC2 := Sts.srcC (s := { s with due := false, phase := 4 }) (HS.out.swap)
    have k1 := hC2.k1
    have k2 := hC2.k2
    have kk10 := hC2.k10
    have kk20 := hC2.k20
    clear e
    clear hp hc st2 stf st1 hC hC2 hz h hs
    go_enter Try.func61, Try.ntmps61
    go_wp2_with fail
    have hf := Sts.storeAll (stabC (blkP_stable _ _) (stabC (rowP_stable _ _ _ _ _) (stabC (rowP_stable _ _ _ _ _) hl))) (Fil.ackP s).cells.toList 0 _ _ HS.out
    rw [show putAll 0 (Fil.ackP s).cells.toList zeroPdu = (Fil.ackP s).cells by kernel_rfl] at hf
    clear HS fz k1 k2 z0 z1 z2 z3 z4 z5 z6 z7 z8 z9 z10
    refine (show ∀ z, Sts W (blkP w.heap.size (.cells (Fil.ackP s).cells 45 (0, 0)) :: blkP q (.cells (({ s with due := false, phase := 4 } : Fil.Src).cells (.slice da s.data.length dc) wv) 64 (0, 0)) :: rowP 5 1 (.slice da s.data.length dc) s.data.length (u8s s.data) :: rowP 81 2 wv s.wanted.length (Fil.rcells s.wanted) :: l) z → bodyPost _ _ _ _ _ z from ?_) _ hf
    clear hf
    intro z hz
    have e0 : z.cell? ⟨w.heap.size, 0, none⟩ = some (.int .i64 7) := (Sts.boxCell hz 0 _ rfl).1
    have e1 : z.cell? ⟨w.heap.size, 1, none⟩ = some (.int .i64 s.src) := (Sts.boxCell hz 1 _ rfl).1
    have e2 : z.cell? ⟨w.heap.size, 2, none⟩ = some (.int .i64 s.num) := (Sts.boxCell hz 2 _ rfl).1
    have e3 : z.cell? ⟨w.heap.size, 3, none⟩ = some (.int .i64 0) := (Sts.boxCell hz 3 _ rfl).1
    have e4 : z.cell? ⟨w.heap.size, 4, none⟩ = some (.string ⟨#[]⟩) := (Sts.boxCell hz 4 _ rfl).1
    have e5 : z.cell? ⟨w.heap.size, 5, none⟩ = some (.int .i64 0) := (Sts.boxCell hz 5 _ rfl).1
    have e6 : z.cell? ⟨w.heap.size, 6, none⟩ = some (.int .i64 0) := (Sts.boxCell hz 6 _ rfl).1
    have e7 : z.cell? ⟨w.heap.size, 7, none⟩ = some (.slice none 0 0) := (Sts.boxCell hz 7 _ rfl).1
    have e8 : z.cell? ⟨w.heap.size, 8, none⟩ = some (.int .u32 0) := (Sts.boxCell hz 8 _ rfl).1
    have e9 : z.cell? ⟨w.heap.size, 9, none⟩ = some (.int .i64 0) := (Sts.boxCell hz 9 _ rfl).1
    have e10 : z.cell? ⟨w.heap.size, 10, none⟩ = some (.slice none 0 0) := (Sts.boxCell hz 10 _ rfl).1
    have HF := hid hz
    clear hz
    refine bodyPost_ret (v := .agg #[.int .i64 7, .int .i64 s.src, .int .i64 s.num, .int .i64 0, .string ⟨#[]⟩, .int .i64 0, .int .i64 0, .slice none 0 0, .int .u32 0, .int .i64 0, .slice none 0 0]) ?_ rfl ⟨rfl, Sts.shutSrc (s := { s with due := false, phase := 4 }) (HF.out.tail)⟩
    simp [results, Try.results61, go_sem, e0, e1, e2, e3, e4, e5, e6, e7, e8, e9, e10]
  · have b : (s.code == 0) = false := by simpa using hc
    rw [hp] at k10
    have e : s.finV = { s with due := false, phase := 5 } := by unfold Fil.Src.finV; rw [if_pos hp, if_neg hc]
    rw [e]
    have hA := Sts.srcC (dv := .slice da s.data.length dc) (wv := wv) (s := { s with due := false }) st1
    have l10 := hA.k10
    have l20 := hA.k20
    have lfr := hA.fr 10
    have st2 := Sts.store hl4 st1 (j := 10) (.int .i64 5)
    simp only [hp] at l10
    have hB := Sts.srcC (dv := .slice da s.data.length dc) (wv := wv) (s := { s with due := false, phase := 5 }) st2
    have m10 := hB.k10
    have m20 := hB.k20
    have mfr := hB.fr 10
    have stf := st2
    clear hA hB
    have HS : Hid (Sts W (blkP w.heap.size (.cells zeroPdu 45 (0, 0)) :: blkP q (.cells (({ s with due := false, phase := 5 } : Fil.Src).cells (.slice da s.data.length dc) wv) 64 (0, 0)) :: rowP 5 1 (.slice da s.data.length dc) s.data.length (u8s s.data) :: rowP 81 2 wv s.wanted.length (Fil.rcells s.wanted) :: l) (((w.alloc (.cells #[.int .i64 0, .int .i64 0, .int .i64 0, .int .i64 0, .string ⟨#[]⟩, .int .i64 0, .int .i64 0, .slice none 0 0, .int .u32 0, .int .i64 0, .slice none 0 0] 45)).setCell ⟨q, 19, none⟩ (.bool false)).setCell ⟨q, 10, none⟩ (.int .i64 5))) := hid (Sts.swap stf)
    have fz : ∀ j, (((w.alloc (.cells #[.int .i64 0, .int .i64 0, .int .i64 0, .int .i64 0, .string ⟨#[]⟩, .int .i64 0, .int .i64 0, .slice none 0 0, .int .u32 0, .int .i64 0, .slice none 0 0] 45)).setCell ⟨q, 19, none⟩ (.bool false)).setCell ⟨q, 10, none⟩ (.int .i64 5)).frozen? ⟨w.heap.size, j, none⟩ = false := fun j => by obtain ⟨F, hF⟩ := HS.out.head; exact free_blk hF.1
    have z0 := (Sts.boxCell HS.out 0 _ rfl).1
    have z1 := (Sts.boxCell HS.out 1 _ rfl).1
    have z2 := (Sts.boxCell HS.out 2 _ rfl).1
    have z3 := (Sts.boxCell HS.out 3 _ rfl).1
    have z4 := (Sts.boxCell HS.out 4 _ rfl).1
    have z5 := (Sts.boxCell HS.out 5 _ rfl).1
    have z6 := (Sts.boxCell HS.out 6 _ rfl).1
    have z7 := (Sts.boxCell HS.out 7 _ rfl).1
    have z8 := (Sts.boxCell HS.out 8 _ rfl).1
    have z9 := (Sts.boxCell HS.out 9 _ rfl).1
    have z10 := (Sts.boxCell HS.out 10 _ rfl).1
    have hC2 := Sts.srcC (s := { s with due := false, phase := 5 }) (HS.out.swap)
    have k1 := hC2.k1
    have k2 := hC2.k2
    have kk10 := hC2.k10
    have kk20 := hC2.k20
    clear e
    clear hp hc st2 stf st1 hC hC2 hz h hs
    go_enter Try.func61, Try.ntmps61
    go_wp2_with fail
    have hf := Sts.storeAll (stabC (blkP_stable _ _) (stabC (rowP_stable _ _ _ _ _) (stabC (rowP_stable _ _ _ _ _) hl))) (Fil.ackP s).cells.toList 0 _ _ HS.out
    rw [show putAll 0 (Fil.ackP s).cells.toList zeroPdu = (Fil.ackP s).cells by kernel_rfl] at hf
    clear HS fz k1 k2 z0 z1 z2 z3 z4 z5 z6 z7 z8 z9 z10
    refine (show ∀ z, Sts W (blkP w.heap.size (.cells (Fil.ackP s).cells 45 (0, 0)) :: blkP q (.cells (({ s with due := false, phase := 5 } : Fil.Src).cells (.slice da s.data.length dc) wv) 64 (0, 0)) :: rowP 5 1 (.slice da s.data.length dc) s.data.length (u8s s.data) :: rowP 81 2 wv s.wanted.length (Fil.rcells s.wanted) :: l) z → bodyPost _ _ _ _ _ z from ?_) _ hf
    clear hf
    intro z hz
    have e0 : z.cell? ⟨w.heap.size, 0, none⟩ = some (.int .i64 7) := (Sts.boxCell hz 0 _ rfl).1
    have e1 : z.cell? ⟨w.heap.size, 1, none⟩ = some (.int .i64 s.src) := (Sts.boxCell hz 1 _ rfl).1
    have e2 : z.cell? ⟨w.heap.size, 2, none⟩ = some (.int .i64 s.num) := (Sts.boxCell hz 2 _ rfl).1
    have e3 : z.cell? ⟨w.heap.size, 3, none⟩ = some (.int .i64 0) := (Sts.boxCell hz 3 _ rfl).1
    have e4 : z.cell? ⟨w.heap.size, 4, none⟩ = some (.string ⟨#[]⟩) := (Sts.boxCell hz 4 _ rfl).1
    have e5 : z.cell? ⟨w.heap.size, 5, none⟩ = some (.int .i64 0) := (Sts.boxCell hz 5 _ rfl).1
    have e6 : z.cell? ⟨w.heap.size, 6, none⟩ = some (.int .i64 0) := (Sts.boxCell hz 6 _ rfl).1
    have e7 : z.cell? ⟨w.heap.size, 7, none⟩ = some (.slice none 0 0) := (Sts.boxCell hz 7 _ rfl).1
    have e8 : z.cell? ⟨w.heap.size, 8, none⟩ = some (.int .u32 0) := (Sts.boxCell hz 8 _ rfl).1
    have e9 : z.cell? ⟨w.heap.size, 9, none⟩ = some (.int .i64 0) := (Sts.boxCell hz 9 _ rfl).1
    have e10 : z.cell? ⟨w.heap.size, 10, none⟩ = some (.slice none 0 0) := (Sts.boxCell hz 10 _ rfl).1
    have HF := hid hz
    clear hz
    refine bodyPost_ret (v := .agg #[.int .i64 7, .int .i64 s.src, .int .i64 s.num, .int .i64 0, .string ⟨#[]⟩, .int .i64 0, .int .i64 0, .slice none 0 0, .int .u32 0, .int .i64 0, .slice none 0 0]) ?_ rfl ⟨rfl, Sts.shutSrc (s := { s with due := false, phase := 5 }) (HF.out.tail)⟩
    simp [results, Try.results61, go_sem, e0, e1, e2, e3, e4, e5, e6, e7, e8, e9, e10]
end
end Go.Proofs.Ytfjadhkhmhnccaa
