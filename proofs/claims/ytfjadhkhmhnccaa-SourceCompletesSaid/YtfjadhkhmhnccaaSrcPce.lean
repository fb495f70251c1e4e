/- The contract of the Eof unit. The contract of the answer to a Finished. The contract of a piece of the file. -/
import Derived.Test.YtfjadhkhmhnccaaSrcUnits
import Derived.Lib.SlBytesRow
set_option linter.unusedVariables false
set_option linter.unusedSimpArgs false
namespace Fil
def eofP (s : Src) (code : Int) : Pdu := { kind := 3, src := s.src, num := s.num, cls := s.cls, size := (s.data.length : Nat), sum := sumV s.data, code := code }
end Fil
namespace Go.Proofs.Ytfjadhkhmhnccaa
open Go.RowKit Go.Proofs.Num
section
variable {W w : World} {l : List HProp} (hl : ∀ B ∈ l, Stable B) (q : Nat) (s : Fil.Src) (hs : Sts W (srcP q s :: l) w) (hn : s.data.length < 100000000) (hb : ∀ x ∈ s.data, x < 256)
include hl hs hn hb
set_option maxRecDepth 100000 in
set_option maxHeartbeats 1000000 in
theorem cEof (code : Int) : Calls Try.prog 62 #[.pointer (some ⟨q, 0, none⟩), .int .i64 code] w fun e w' => e = .returned (.agg (Fil.eofP s code).cells) ∧ Sts W (srcP q s :: l) w' := by
  obtain ⟨dv, wv, h⟩ := Sts.openSrc hs
  obtain ⟨da, dc, hde⟩ := (Rd.of_own (Sts.rowOwn (h.swap)) (u8s_len _)).eq
  rw [u8s_len] at hde
  subst hde
  have hl3 : ∀ B ∈ blkP q (.cells (s.cells (.slice da s.data.length dc) wv) 64 (0, 0)) :: rowP 5 1 (.slice da s.data.length dc) s.data.length (u8s s.data) :: rowP 81 2 wv s.wanted.length (Fil.rcells s.wanted) :: l, Stable B := stabC (blkP_stable _ _) (stabC (rowP_stable _ _ _ _ _) (stabC (rowP_stable _ _ _ _ _) hl))
  have hz := h.alloc hl3 (.cells zeroPdu 45 (0, 0))
  have HS := hid hz
  have HSUM := hid (fun y (hy : Sts W (blkP w.heap.size (.cells zeroPdu 45 (0, 0)) :: blkP q (.cells (s.cells (.slice da s.data.length dc) wv) 64 (0, 0)) :: rowP 5 1 (.slice da s.data.length dc) s.data.length (u8s s.data) :: rowP 81 2 wv s.wanted.length (Fil.rcells s.wanted) :: l) y) => cSum y (.slice da s.data.length dc) s.data ⟨Rd.of_own (Sts.rowOwn (hy.tail.tail)) (u8s_len _), hb⟩ hn)
  clear h hz hs hb
  go_enter Try.func62, Try.ntmps62
  go_wp2_with fail
  refine wp_region_ord (.pure 0 (.pure 1 (.pure 2 (.pure 3 (.pure 4 (.pure 5 (.pure 6 (.pure 7 (.pure 8 (.pure 9 (.pure 10 (.pure 11 (.pure 12 (.pure 13 (.pure 14 (.pure 15 (.pure 16 (.pure 18 (.eff 17 (.pure 19 (.eff 20 .nil))))))))))))))))))))) (fun y => SrcC y q s (.slice da s.data.length dc) wv) (fun y => Sts W (blkP w.heap.size (.cells zeroPdu 45 (0, 0)) :: blkP q (.cells (s.cells (.slice da s.data.length dc) wv) 64 (0, 0)) :: rowP 5 1 (.slice da s.data.length dc) s.data.length (u8s s.data) :: rowP 81 2 wv s.wanted.length (Fil.rcells s.wanted) :: l) y) (by kernel_rfl) (by kernel_rfl) (HS.out.drew (stabC (blkP_stable _ _) hl3)) (fun _ h => Sts.srcC h.tail) ?_
  iterate 18
    (apply ord_pure (ho := rfl)
     · go_simp
     · intro x hx; have k1 := hx.k1; have k2 := hx.k2; have k3 := hx.k3; have k4 := hx.k4; have k5 := hx.k5; have k20 := hx.k20; go_simp; rfl
     apply ord_norm
     · go_simp; rfl)
  apply ord_eff (ho := rfl)
  · go_simp
  intro y hy
  refine eff_call (f := 21) (by go_simp) (HSUM.out y hy) ?_
  rintro e w2 ⟨rfl, rfl⟩
  refine ⟨_, rfl, (fun y => SrcC y q s (.slice da s.data.length dc) wv) , (fun y => Sts W (blkP w.heap.size (.cells zeroPdu 45 (0, 0)) :: blkP q (.cells (s.cells (.slice da s.data.length dc) wv) 64 (0, 0)) :: rowP 5 1 (.slice da s.data.length dc) s.data.length (u8s s.data) :: rowP 81 2 wv s.wanted.length (Fil.rcells s.wanted) :: l) y), hy, (fun _ h => Sts.srcC h.tail), (fun _ h => h), ?_⟩
  clear hy y HSUM
  apply ord_norm
  · go_simp; rfl
  iterate 1
    (apply ord_pure (ho := rfl)
     · go_simp
     · intro x hx; have k1 := hx.k1; have k2 := hx.k2; have k3 := hx.k3; have k4 := hx.k4; have k5 := hx.k5; have k20 := hx.k20; go_simp; rfl
     apply ord_norm
     · go_simp; rfl)
  apply ord_eff (ho := rfl)
  · go_simp
  intro y hy
  have hy2 := Sts.storeAll hl3 (Fil.eofP s code).cells.toList 0 _ _ hy
  rw [show putAll 0 (Fil.eofP s code).cells.toList zeroPdu = (Fil.eofP s code).cells by kernel_rfl] at hy2
  have fr : ∀ j, y.frozen? ⟨w.heap.size, j, none⟩ = false := fun j => by obtain ⟨F, hF⟩ := hy.head; exact free_blk hF.1
  have z0 := (Sts.boxCell hy 0 _ rfl).1
  have z1 := (Sts.boxCell hy 1 _ rfl).1
  have z2 := (Sts.boxCell hy 2 _ rfl).1
  have z3 := (Sts.boxCell hy 3 _ rfl).1
  have z4 := (Sts.boxCell hy 4 _ rfl).1
  have z5 := (Sts.boxCell hy 5 _ rfl).1
  have z6 := (Sts.boxCell hy 6 _ rfl).1
  have z7 := (Sts.boxCell hy 7 _ rfl).1
  have z8 := (Sts.boxCell hy 8 _ rfl).1
  have z9 := (Sts.boxCell hy 9 _ rfl).1
  have z10 := (Sts.boxCell hy 10 _ rfl).1
  refine eff_skip (fun y => SrcC y q s (.slice da s.data.length dc) wv) (fun y => Sts W (blkP w.heap.size (.cells (Fil.eofP s code).cells 45 (0, 0)) :: blkP q (.cells (s.cells (.slice da s.data.length dc) wv) 64 (0, 0)) :: rowP 5 1 (.slice da s.data.length dc) s.data.length (u8s s.data) :: rowP 81 2 wv s.wanted.length (Fil.rcells s.wanted) :: l) y) (w := (((((((((((y.setCell ⟨w.heap.size, 0, none⟩ (.int .i64 3)).setCell ⟨w.heap.size, 1, none⟩ (.int .i64 s.src)).setCell ⟨w.heap.size, 2, none⟩ (.int .i64 s.num)).setCell ⟨w.heap.size, 3, none⟩ (.int .i64 s.cls)).setCell ⟨w.heap.size, 4, none⟩ (.string ⟨#[]⟩)).setCell ⟨w.heap.size, 5, none⟩ (.int .i64 s.data.length)).setCell ⟨w.heap.size, 6, none⟩ (.int .i64 0)).setCell ⟨w.heap.size, 7, none⟩ (.slice none 0 0)).setCell ⟨w.heap.size, 8, none⟩ (.int .u32 (Fil.sumV s.data : Nat))).setCell ⟨w.heap.size, 9, none⟩ (.int .i64 code)).setCell ⟨w.heap.size, 10, none⟩ (.slice none 0 0))) ?_ hy2 (fun _ h => Sts.srcC h.tail) (fun _ h => h) ?_
  · clear hy2
    go_simp
  clear hy hy2
  apply ord_norm
  · go_simp; rfl
  refine ord_nil fun z hz => ?_
  have HF := hid hz
  have e0 : z.cell? ⟨w.heap.size, 0, none⟩ = some (.int .i64 3) := (Sts.boxCell hz 0 _ rfl).1
  have e1 : z.cell? ⟨w.heap.size, 1, none⟩ = some (.int .i64 s.src) := (Sts.boxCell hz 1 _ rfl).1
  have e2 : z.cell? ⟨w.heap.size, 2, none⟩ = some (.int .i64 s.num) := (Sts.boxCell hz 2 _ rfl).1
  have e3 : z.cell? ⟨w.heap.size, 3, none⟩ = some (.int .i64 s.cls) := (Sts.boxCell hz 3 _ rfl).1
  have e4 : z.cell? ⟨w.heap.size, 4, none⟩ = some (.string ⟨#[]⟩) := (Sts.boxCell hz 4 _ rfl).1
  have e5 : z.cell? ⟨w.heap.size, 5, none⟩ = some (.int .i64 s.data.length) := (Sts.boxCell hz 5 _ rfl).1
  have e6 : z.cell? ⟨w.heap.size, 6, none⟩ = some (.int .i64 0) := (Sts.boxCell hz 6 _ rfl).1
  have e7 : z.cell? ⟨w.heap.size, 7, none⟩ = some (.slice none 0 0) := (Sts.boxCell hz 7 _ rfl).1
  have e8 : z.cell? ⟨w.heap.size, 8, none⟩ = some (.int .u32 (Fil.sumV s.data : Nat)) := (Sts.boxCell hz 8 _ rfl).1
  have e9 : z.cell? ⟨w.heap.size, 9, none⟩ = some (.int .i64 code) := (Sts.boxCell hz 9 _ rfl).1
  have e10 : z.cell? ⟨w.heap.size, 10, none⟩ = some (.slice none 0 0) := (Sts.boxCell hz 10 _ rfl).1
  clear hz fr z0 z1 z2 z3 z4 z5 z6 z7 z8 z9 z10
  go_wp2_with fail
  refine bodyPost_ret (v := .agg #[.int .i64 3, .int .i64 s.src, .int .i64 s.num, .int .i64 s.cls, .string ⟨#[]⟩, .int .i64 s.data.length, .int .i64 0, .slice none 0 0, .int .u32 (Fil.sumV s.data : Nat), .int .i64 code, .slice none 0 0]) ?_ rfl ⟨rfl, Sts.shutSrc (HF.out.tail)⟩
  simp [results, Try.results62, go_sem, e0, e1, e2, e3, e4, e5, e6, e7, e8, e9, e10]
end
end Go.Proofs.Ytfjadhkhmhnccaa
namespace Fil
def Src.finV (s : Src) : Src := { s with due := false, phase := if s.phase = 2 then (if s.code = 0 then 4 else 5) else s.phase }
def ackP (s : Src) : Pdu := { kind := 7, src := s.src, num := s.num }
end Fil
namespace Go.Proofs.Ytfjadhkhmhnccaa
open Go.RowKit Go.Proofs.Num
section
variable {W w : World} {l : List HProp} (hl : ∀ B ∈ l, Stable B) (q : Nat) (s : Fil.Src) (hs : Sts W (srcP q s :: l) w)
include hl hs
set_option maxRecDepth 100000 in
set_option maxHeartbeats 1000000 in
theorem cFinish : Calls Try.prog 61 #[.pointer (some ⟨q, 0, none⟩)] w fun e w' => e = .returned (.agg (Fil.ackP s).cells) ∧ Sts W (srcP q s.finV :: l) w' := by
  obtain ⟨dv, wv, h⟩ := Sts.openSrc hs
  obtain ⟨da, dc, hde⟩ := (Rd.of_own (Sts.rowOwn (h.swap)) (u8s_len _)).eq
  rw [u8s_len] at hde
  subst hde
  have hl3 : ∀ B ∈ blkP q (.cells (s.cells (.slice da s.data.length dc) wv) 64 (0, 0)) :: rowP 5 1 (.slice da s.data.length dc) s.data.length (u8s s.data) :: rowP 81 2 wv s.wanted.length (Fil.rcells s.wanted) :: l, Stable B := stabC (blkP_stable _ _) (stabC (rowP_stable _ _ _ _ _) (stabC (rowP_stable _ _ _ _ _) hl))
  have hz : Sts W (blkP w.heap.size (.cells zeroPdu 45 (0, 0)) :: blkP q (.cells (s.cells (.slice da s.data.length dc) wv) 64 (0, 0)) :: rowP 5 1 (.slice da s.data.length dc) s.data.length (u8s s.data) :: rowP 81 2 wv s.wanted.length (Fil.rcells s.wanted) :: l) (w.alloc (.cells #[.int .i64 0, .int .i64 0, .int .i64 0, .int .i64 0, .string ⟨#[]⟩, .int .i64 0, .int .i64 0, .slice none 0 0, .int .u32 0, .int .i64 0, .slice none 0 0] 45)) := h.alloc hl3 (.cells zeroPdu 45 (0, 0))

  have hC := Sts.srcC hz.swap
  have k10 := hC.k10
  have k20 := hC.k20
  have k19 := hC.k19
  have fr19 := hC.fr 19
  have fr10 := hC.fr 10
  have hl4 : ∀ B ∈ blkP w.heap.size (.cells zeroPdu 45 (0, 0)) :: rowP 5 1 (.slice da s.data.length dc) s.data.length (u8s s.data) :: rowP 81 2 wv s.wanted.length (Fil.rcells s.wanted) :: l, Stable B := stabC (blkP_stable _ _) (stabC (rowP_stable _ _ _ _ _) (stabC (rowP_stable _ _ _ _ _) hl))
  have st1 := Sts.store hl4 hz.swap (j := 19) (.bool false)
  rcases (show (s.phase ≠ 2) ∨ (s.phase = 2 ∧ s.code = 0) ∨ (s.phase = 2 ∧ s.code ≠ 0) by omega) with hp | ⟨hp, hc⟩ | ⟨hp, hc⟩
  · have b : (s.phase == 2) = false := by simpa using hp
    have e : s.finV = { s with due := false } := by unfold Fil.Src.finV; rw [if_neg hp]
    rw [e]
    have stf := st1
    have HS : Hid (Sts W (blkP w.heap.size (.cells zeroPdu 45 (0, 0)) :: blkP q (.cells (({ s with due := false } : Fil.Src).cells (.slice da s.data.length dc) wv) 64 (0, 0)) :: rowP 5 1 (.slice da s.data.length dc) s.data.length (u8s s.data) :: rowP 81 2 wv s.wanted.length (Fil.rcells s.wanted) :: l) ((w.alloc (.cells #[.int .i64 0, .int .i64 0, .int .i64 0, .int .i64 0, .string ⟨#[]⟩, .int .i64 0, .int .i64 0, .slice none 0 0, .int .u32 0, .int .i64 0, .slice none 0 0] 45)).setCell ⟨q, 19, none⟩ (.bool false))) := hid (Sts.swap stf)
    have fz : ∀ j, ((w.alloc (.cells #[.int .i64 0, .int .i64 0, .int .i64 0, .int .i64 0, .string ⟨#[]⟩, .int .i64 0, .int .i64 0, .slice none 0 0, .int .u32 0, .int .i64 0, .slice none 0 0] 45)).setCell ⟨q, 19, none⟩ (.bool false)).frozen? ⟨w.heap.size, j, none⟩ = false := fun j => by obtain ⟨F, hF⟩ := HS.out.head; exact free_blk hF.1
    have z0 := (Sts.boxCell HS.out 0 _ rfl).1
    have z1 := (Sts.boxCell HS.out 1 _ rfl).1
    have z2 := (Sts.boxCell HS.out 2 _ rfl).1
    have z3 := (Sts.boxCell HS.out 3 _ rfl).1
    have z4 := (Sts.boxCell HS.out 4 _ rfl).1
    have z5 := (Sts.boxCell HS.out 5 _ rfl).1
    have z6 := (Sts.boxCell HS.out 6 _ rfl).1
    have z7 := (Sts.boxCell HS.out 7 _ rfl).1
    have z8 := (Sts.boxCell HS.out 8 _ rfl).1
    have z9 := (Sts.boxCell HS.out 9 _ rfl).1
    have z10 := (Sts.boxCell HS.out 10 _ rfl).1
    have hC2 := Sts.srcC (s := { s with due := false }) (HS.out.swap)
    have k1 := hC2.k1
    have k2 := hC2.k2
    have kk10 := hC2.k10
    have kk20 := hC2.k20
    clear e
    clear hp stf st1 hC hC2 hz h hs
    go_enter Try.func61, Try.ntmps61
    go_wp2_with fail
    have hf := Sts.storeAll (stabC (blkP_stable _ _) (stabC (rowP_stable _ _ _ _ _) (stabC (rowP_stable _ _ _ _ _) hl))) (Fil.ackP s).cells.toList 0 _ _ HS.out
    rw [show putAll 0 (Fil.ackP s).cells.toList zeroPdu = (Fil.ackP s).cells by kernel_rfl] at hf
    clear HS fz k1 k2 z0 z1 z2 z3 z4 z5 z6 z7 z8 z9 z10
    refine (show ∀ z, Sts W (blkP w.heap.size (.cells (Fil.ackP s).cells 45 (0, 0)) :: blkP q (.cells (({ s with due := false } : Fil.Src).cells (.slice da s.data.length dc) wv) 64 (0, 0)) :: rowP 5 1 (.slice da s.data.length dc) s.data.length (u8s s.data) :: rowP 81 2 wv s.wanted.length (Fil.rcells s.wanted) :: l) z → bodyPost _ _ _ _ _ z from ?_) _ hf
    clear hf
    intro z hz
    have e0 : z.cell? ⟨w.heap.size, 0, none⟩ = some (.int .i64 7) := (Sts.boxCell hz 0 _ rfl).1
    have e1 : z.cell? ⟨w.heap.size, 1, none⟩ = some (.int .i64 s.src) := (Sts.boxCell hz 1 _ rfl).1
    have e2 : z.cell? ⟨w.heap.size, 2, none⟩ = some (.int .i64 s.num) := (Sts.boxCell hz 2 _ rfl).1
    have e3 : z.cell? ⟨w.heap.size, 3, none⟩ = some (.int .i64 0) := (Sts.boxCell hz 3 _ rfl).1
    have e4 : z.cell? ⟨w.heap.size, 4, none⟩ = some (.string ⟨#[]⟩) := (Sts.boxCell hz 4 _ rfl).1
    have e5 : z.cell? ⟨w.heap.size, 5, none⟩ = some (.int .i64 0) := (Sts.boxCell hz 5 _ rfl).1
    have e6 : z.cell? ⟨w.heap.size, 6, none⟩ = some (.int .i64 0) := (Sts.boxCell hz 6 _ rfl).1
    have e7 : z.cell? ⟨w.heap.size, 7, none⟩ = some (.slice none 0 0) := (Sts.boxCell hz 7 _ rfl).1
    have e8 : z.cell? ⟨w.heap.size, 8, none⟩ = some (.int .u32 0) := (Sts.boxCell hz 8 _ rfl).1
    have e9 : z.cell? ⟨w.heap.size, 9, none⟩ = some (.int .i64 0) := (Sts.boxCell hz 9 _ rfl).1
    have e10 : z.cell? ⟨w.heap.size, 10, none⟩ = some (.slice none 0 0) := (Sts.boxCell hz 10 _ rfl).1
    have HF := hid hz
    clear hz
    refine bodyPost_ret (v := .agg #[.int .i64 7, .int .i64 s.src, .int .i64 s.num, .int .i64 0, .string ⟨#[]⟩, .int .i64 0, .int .i64 0, .slice none 0 0, .int .u32 0, .int .i64 0, .slice none 0 0]) ?_ rfl ⟨rfl, Sts.shutSrc (s := { s with due := false }) (HF.out.tail)⟩
    simp [results, Try.results61, go_sem, e0, e1, e2, e3, e4, e5, e6, e7, e8, e9, e10]
  · rw [hp] at k10; rw [hc] at k20
    have e : s.finV = { s with due := false, phase := 4 } := by unfold Fil.Src.finV; rw [if_pos hp, if_pos hc]
    rw [e]
    have hA := Sts.srcC (dv := .slice da s.data.length dc) (wv := wv) (s := { s with due := false }) st1
    have l10 := hA.k10
    have l20 := hA.k20
    have lfr := hA.fr 10
    have st2 := Sts.store hl4 st1 (j := 10) (.int .i64 5)
    simp only [hp] at l10
    simp only [hc] at l20
    have hB := Sts.srcC (dv := .slice da s.data.length dc) (wv := wv) (s := { s with due := false, phase := 5 }) st2
    have m10 := hB.k10
    have m20 := hB.k20
    have mfr := hB.fr 10
    simp only [hc] at m20
    have stf := Sts.store hl4 st2 (j := 10) (.int .i64 4)
    clear hA hB
    have HS : Hid (Sts W (blkP w.heap.size (.cells zeroPdu 45 (0, 0)) :: blkP q (.cells (({ s with due := false, phase := 4 } : Fil.Src).cells (.slice da s.data.length dc) wv) 64 (0, 0)) :: rowP 5 1 (.slice da s.data.length dc) s.data.length (u8s s.data) :: rowP 81 2 wv s.wanted.length (Fil.rcells s.wanted) :: l) ((((w.alloc (.cells #[.int .i64 0, .int .i64 0, .int .i64 0, .int .i64 0, .string ⟨#[]⟩, .int .i64 0, .int .i64 0, .slice none 0 0, .int .u32 0, .int .i64 0, .slice none 0 0] 45)).setCell ⟨q, 19, none⟩ (.bool false)).setCell ⟨q, 10, none⟩ (.int .i64 5)).setCell ⟨q, 10, none⟩ (.int .i64 4))) := hid (Sts.swap stf)
    have fz : ∀ j, ((((w.alloc (.cells #[.int .i64 0, .int .i64 0, .int .i64 0, .int .i64 0, .string ⟨#[]⟩, .int .i64 0, .int .i64 0, .slice none 0 0, .int .u32 0, .int .i64 0, .slice none 0 0] 45)).setCell ⟨q, 19, none⟩ (.bool false)).setCell ⟨q, 10, none⟩ (.int .i64 5)).setCell ⟨q, 10, none⟩ (.int .i64 4)).frozen? ⟨w.heap.size, j, none⟩ = false := fun j => by obtain ⟨F, hF⟩ := HS.out.head; exact free_blk hF.1
    have z0 := (Sts.boxCell HS.out 0 _ rfl).1
    have z1 := (Sts.boxCell HS.out 1 _ rfl).1
    have z2 := (Sts.boxCell HS.out 2 _ rfl).1
    have z3 := (Sts.boxCell HS.out 3 _ rfl).1
    have z4 := (Sts.boxCell HS.out 4 _ rfl).1
    have z5 := (Sts.boxCell HS.out 5 _ rfl).1
    have z6 := (Sts.boxCell HS.out 6 _ rfl).1
    have z7 := (Sts.boxCell HS.out 7 _ rfl).1
    have z8 := (Sts.boxCell HS.out 8 _ rfl).1
    have z9 := (Sts.boxCell HS.out 9 _ rfl).1
    have z10 := (Sts.boxCell HS.out 10 _ rfl).1
    have hC2 := Sts.srcC (s := { s with due := false, phase := 4 }) (HS.out.swap)
    have k1 := hC2.k1
    have k2 := hC2.k2
    have kk10 := hC2.k10
    have kk20 := hC2.k20
    clear e
    clear hp hc st2 stf st1 hC hC2 hz h hs
    go_enter Try.func61, Try.ntmps61
    go_wp2_with fail
    have hf := Sts.storeAll (stabC (blkP_stable _ _) (stabC (rowP_stable _ _ _ _ _) (stabC (rowP_stable _ _ _ _ _) hl))) (Fil.ackP s).cells.toList 0 _ _ HS.out
    rw [show putAll 0 (Fil.ackP s).cells.toList zeroPdu = (Fil.ackP s).cells by kernel_rfl] at hf
    clear HS fz k1 k2 z0 z1 z2 z3 z4 z5 z6 z7 z8 z9 z10
    refine (show ∀ z, Sts W (blkP w.heap.size (.cells (Fil.ackP s).cells 45 (0, 0)) :: blkP q (.cells (({ s with due := false, phase := 4 } : Fil.Src).cells (.slice da s.data.length dc) wv) 64 (0, 0)) :: rowP 5 1 (.slice da s.data.length dc) s.data.length (u8s s.data) :: rowP 81 2 wv s.wanted.length (Fil.rcells s.wanted) :: l) z → bodyPost _ _ _ _ _ z from ?_) _ hf
    clear hf
    intro z hz
    have e0 : z.cell? ⟨w.heap.size, 0, none⟩ = some (.int .i64 7) := (Sts.boxCell hz 0 _ rfl).1
    have e1 : z.cell? ⟨w.heap.size, 1, none⟩ = some (.int .i64 s.src) := (Sts.boxCell hz 1 _ rfl).1
    have e2 : z.cell? ⟨w.heap.size, 2, none⟩ = some (.int .i64 s.num) := (Sts.boxCell hz 2 _ rfl).1
    have e3 : z.cell? ⟨w.heap.size, 3, none⟩ = some (.int .i64 0) := (Sts.boxCell hz 3 _ rfl).1
    have e4 : z.cell? ⟨w.heap.size, 4, none⟩ = some (.string ⟨#[]⟩) := (Sts.boxCell hz 4 _ rfl).1
    have e5 : z.cell? ⟨w.heap.size, 5, none⟩ = some (.int .i64 0) := (Sts.boxCell hz 5 _ rfl).1
    have e6 : z.cell? ⟨w.heap.size, 6, none⟩ = some (.int .i64 0) := (Sts.boxCell hz 6 _ rfl).1
    have e7 : z.cell? ⟨w.heap.size, 7, none⟩ = some (.slice none 0 0) := (Sts.boxCell hz 7 _ rfl).1
    have e8 : z.cell? ⟨w.heap.size, 8, none⟩ = some (.int .u32 0) := (Sts.boxCell hz 8 _ rfl).1
    have e9 : z.cell? ⟨w.heap.size, 9, none⟩ = some (.int .i64 0) := (Sts.boxCell hz 9 _ rfl).1
    have e10 : z.cell? ⟨w.heap.size, 10, none⟩ = some (.slice none 0 0) := (Sts.boxCell hz 10 _ rfl).1
    have HF := hid hz
    clear hz
    refine bodyPost_ret (v := .agg #[.int .i64 7, .int .i64 s.src, .int .i64 s.num, .int .i64 0, .string ⟨#[]⟩, .int .i64 0, .int .i64 0, .slice none 0 0, .int .u32 0, .int .i64 0, .slice none 0 0]) ?_ rfl ⟨rfl, Sts.shutSrc (s := { s with due := false, phase := 4 }) (HF.out.tail)⟩
    simp [results, Try.results61, go_sem, e0, e1, e2, e3, e4, e5, e6, e7, e8, e9, e10]
  · have b : (s.code == 0) = false := by simpa using hc
    rw [hp] at k10
    have e : s.finV = { s with due := false, phase := 5 } := by unfold Fil.Src.finV; rw [if_pos hp, if_neg hc]
    rw [e]
    have hA := Sts.srcC (dv := .slice da s.data.length dc) (wv := wv) (s := { s with due := false }) st1
    have l10 := hA.k10
    have l20 := hA.k20
    have lfr := hA.fr 10
    have st2 := Sts.store hl4 st1 (j := 10) (.int .i64 5)
    simp only [hp] at l10
    have hB := Sts.srcC (dv := .slice da s.data.length dc) (wv := wv) (s := { s with due := false, phase := 5 }) st2
    have m10 := hB.k10
    have m20 := hB.k20
    have mfr := hB.fr 10
    have stf := st2
    clear hA hB
    have HS : Hid (Sts W (blkP w.heap.size (.cells zeroPdu 45 (0, 0)) :: blkP q (.cells (({ s with due := false, phase := 5 } : Fil.Src).cells (.slice da s.data.length dc) wv) 64 (0, 0)) :: rowP 5 1 (.slice da s.data.length dc) s.data.length (u8s s.data) :: rowP 81 2 wv s.wanted.length (Fil.rcells s.wanted) :: l) (((w.alloc (.cells #[.int .i64 0, .int .i64 0, .int .i64 0, .int .i64 0, .string ⟨#[]⟩, .int .i64 0, .int .i64 0, .slice none 0 0, .int .u32 0, .int .i64 0, .slice none 0 0] 45)).setCell ⟨q, 19, none⟩ (.bool false)).setCell ⟨q, 10, none⟩ (.int .i64 5))) := hid (Sts.swap stf)
    have fz : ∀ j, (((w.alloc (.cells #[.int .i64 0, .int .i64 0, .int .i64 0, .int .i64 0, .string ⟨#[]⟩, .int .i64 0, .int .i64 0, .slice none 0 0, .int .u32 0, .int .i64 0, .slice none 0 0] 45)).setCell ⟨q, 19, none⟩ (.bool false)).setCell ⟨q, 10, none⟩ (.int .i64 5)).frozen? ⟨w.heap.size, j, none⟩ = false := fun j => by obtain ⟨F, hF⟩ := HS.out.head; exact free_blk hF.1
    have z0 := (Sts.boxCell HS.out 0 _ rfl).1
    have z1 := (Sts.boxCell HS.out 1 _ rfl).1
    have z2 := (Sts.boxCell HS.out 2 _ rfl).1
    have z3 := (Sts.boxCell HS.out 3 _ rfl).1
    have z4 := (Sts.boxCell HS.out 4 _ rfl).1
    have z5 := (Sts.boxCell HS.out 5 _ rfl).1
    have z6 := (Sts.boxCell HS.out 6 _ rfl).1
    have z7 := (Sts.boxCell HS.out 7 _ rfl).1
    have z8 := (Sts.boxCell HS.out 8 _ rfl).1
    have z9 := (Sts.boxCell HS.out 9 _ rfl).1
    have z10 := (Sts.boxCell HS.out 10 _ rfl).1
    have hC2 := Sts.srcC (s := { s with due := false, phase := 5 }) (HS.out.swap)
    have k1 := hC2.k1
    have k2 := hC2.k2
    have kk10 := hC2.k10
    have kk20 := hC2.k20
    clear e
    clear hp hc st2 stf st1 hC hC2 hz h hs
    go_enter Try.func61, Try.ntmps61
    go_wp2_with fail
    have hf := Sts.storeAll (stabC (blkP_stable _ _) (stabC (rowP_stable _ _ _ _ _) (stabC (rowP_stable _ _ _ _ _) hl))) (Fil.ackP s).cells.toList 0 _ _ HS.out
    rw [show putAll 0 (Fil.ackP s).cells.toList zeroPdu = (Fil.ackP s).cells by kernel_rfl] at hf
    clear HS fz k1 k2 z0 z1 z2 z3 z4 z5 z6 z7 z8 z9 z10
    refine (show ∀ z, Sts W (blkP w.heap.size (.cells (Fil.ackP s).cells 45 (0, 0)) :: blkP q (.cells (({ s with due := false, phase := 5 } : Fil.Src).cells (.slice da s.data.length dc) wv) 64 (0, 0)) :: rowP 5 1 (.slice da s.data.length dc) s.data.length (u8s s.data) :: rowP 81 2 wv s.wanted.length (Fil.rcells s.wanted) :: l) z → bodyPost _ _ _ _ _ z from ?_) _ hf
    clear hf
    intro z hz
    have e0 : z.cell? ⟨w.heap.size, 0, none⟩ = some (.int .i64 7) := (Sts.boxCell hz 0 _ rfl).1
    have e1 : z.cell? ⟨w.heap.size, 1, none⟩ = some (.int .i64 s.src) := (Sts.boxCell hz 1 _ rfl).1
    have e2 : z.cell? ⟨w.heap.size, 2, none⟩ = some (.int .i64 s.num) := (Sts.boxCell hz 2 _ rfl).1
    have e3 : z.cell? ⟨w.heap.size, 3, none⟩ = some (.int .i64 0) := (Sts.boxCell hz 3 _ rfl).1
    have e4 : z.cell? ⟨w.heap.size, 4, none⟩ = some (.string ⟨#[]⟩) := (Sts.boxCell hz 4 _ rfl).1
    have e5 : z.cell? ⟨w.heap.size, 5, none⟩ = some (.int .i64 0) := (Sts.boxCell hz 5 _ rfl).1
    have e6 : z.cell? ⟨w.heap.size, 6, none⟩ = some (.int .i64 0) := (Sts.boxCell hz 6 _ rfl).1
    have e7 : z.cell? ⟨w.heap.size, 7, none⟩ = some (.slice none 0 0) := (Sts.boxCell hz 7 _ rfl).1
    have e8 : z.cell? ⟨w.heap.size, 8, none⟩ = some (.int .u32 0) := (Sts.boxCell hz 8 _ rfl).1
    have e9 : z.cell? ⟨w.heap.size, 9, none⟩ = some (.int .i64 0) := (Sts.boxCell hz 9 _ rfl).1
    have e10 : z.cell? ⟨w.heap.size, 10, none⟩ = some (.slice none 0 0) := (Sts.boxCell hz 10 _ rfl).1
    have HF := hid hz
    clear hz
    refine bodyPost_ret (v := .agg #[.int .i64 7, .int .i64 s.src, .int .i64 s.num, .int .i64 0, .string ⟨#[]⟩, .int .i64 0, .int .i64 0, .slice none 0 0, .int .u32 0, .int .i64 0, .slice none 0 0]) ?_ rfl ⟨rfl, Sts.shutSrc (s := { s with due := false, phase := 5 }) (HF.out.tail)⟩
    simp [results, Try.results61, go_sem, e0, e1, e2, e3, e4, e5, e6, e7, e8, e9, e10]
end
end Go.Proofs.Ytfjadhkhmhnccaa
namespace Fil
def pieceP (s : Src) (f : Nat) (pa : Option Go.Addr) (sub : List Nat) (pc : Nat) : Pdu := { kind := 2, src := s.src, num := s.num, off := (f : Nat), da := pa, data := sub, dc := pc }
end Fil
namespace Go.Proofs.Ytfjadhkhmhnccaa
open Go.RowKit Go.Proofs.Num
section
variable {W w : World} {l : List HProp} (hl : ∀ B ∈ l, Stable B) (q : Nat) (s : Fil.Src) (hs : Sts W (srcP q s :: l) w) (hn : s.data.length < 100000000) (hb : ∀ x ∈ s.data, x < 256)
include hl hs hn hb
set_option maxRecDepth 100000 in
set_option maxHeartbeats 1000000 in
theorem cPieceS (f t : Nat) (hft : f < t) (ht : t ≤ s.data.length) : Calls Try.prog 107 #[.pointer (some ⟨q, 0, none⟩), .int .i64 (f : Nat), .int .i64 (t : Nat)] w fun e w' => ∃ pa pc, e = .returned (.agg (Fil.pieceP s f pa ((s.data.drop f).take (t - f)) pc).cells) ∧ Sts W (srcP q s :: rowP 5 1 (.slice pa ((s.data.drop f).take (t - f)).length pc) ((s.data.drop f).take (t - f)).length (u8s ((s.data.drop f).take (t - f))) :: l) w' := by
  obtain ⟨dv, wv, h⟩ := Sts.openSrc hs
  obtain ⟨da, dc, hde⟩ := (Rd.of_own (Sts.rowOwn (h.swap)) (u8s_len _)).eq
  rw [u8s_len] at hde
  subst hde
  have hl3 : ∀ B ∈ blkP q (.cells (s.cells (.slice da s.data.length dc) wv) 64 (0, 0)) :: rowP 5 1 (.slice da s.data.length dc) s.data.length (u8s s.data) :: rowP 81 2 wv s.wanted.length (Fil.rcells s.wanted) :: l, Stable B := stabC (blkP_stable _ _) (stabC (rowP_stable _ _ _ _ _) (stabC (rowP_stable _ _ _ _ _) hl))
  have hz := h.alloc hl3 (.cells zeroPdu 45 (0, 0))
  have HS := hid hz
  have hrd := Rd.of_own (Sts.rowOwn (h.swap)) (u8s_len s.data)
  obtain ⟨o1, o2, -, b, off, hda, -, -⟩ : ∃ x y, True ∧ ∃ b off, da = some ⟨b, off, none⟩ ∧ x = 0 ∧ y = 0 := by
    obtain ⟨a', c', e', -, hx⟩ := hrd
    injection e' with e1 e2 e3
    obtain ⟨b, off, h1, -, -⟩ := hx f (by rw [u8s_len]; omega)
    exact ⟨0, 0, trivial, b, off, e1.trans h1, rfl, rfl⟩
  subst hda
  clear o1 o2
  obtain ⟨-, hcap1, hcap2⟩ := hrd.cap
  have hsl : ∀ x : World, (Instr.slice 24 (.slice (some ⟨b, off, none⟩) s.data.length dc) (some (.int .i64 (f : Int))) (some (.int .i64 (t : Int))) none).run Try.prog x = .ok (.slice (some ⟨b, off + f, none⟩) (t - f) (dc - f)) x := fun x => Lib.run_slice_window x _ 5 Try.underlying24 (fun w => by first | rfl | simp [go_sem] | kernel_rfl) b off _ dc f t hft (by omega)
  have HCLO := hid (fun y (hy : Sts W (blkP w.heap.size (.cells zeroPdu 45 (0, 0)) :: blkP q (.cells (s.cells (.slice (some ⟨b, off, none⟩) s.data.length dc) wv) 64 (0, 0)) :: rowP 5 1 (.slice (some ⟨b, off, none⟩) s.data.length dc) s.data.length (u8s s.data) :: rowP 81 2 wv s.wanted.length (Fil.rcells s.wanted) :: l) y) => by
    have r1 := Rd.of_own (Sts.rowOwn (hy.tail.tail)) (u8s_len s.data)
    have r2 := r1.drop f (by rw [u8s_len]; omega) (some ⟨b, off + f, none⟩) (dc - f) (by rw [u8s_len]; omega) (by rintro b' off' - e; injection e with e; injection e with e1 e2; subst e1; subst e2; rfl)
    have r3 := r2.take (t - f) (by rw [List.length_drop]; rw [u8s_len]; omega) (dc - f) (by omega)
    have r4 : RdB y (.slice (some ⟨b, off + f, none⟩) (t - f) (dc - f)) ((s.data.drop f).take (t - f)) := ⟨by unfold u8s at r3 ⊢; rw [← List.map_drop, ← List.map_take] at r3; exact r3, fun x hx => hb x (List.mem_of_mem_drop (List.mem_of_mem_take hx))⟩
    exact cCloneB y _ _ r4 (by simp; omega))
  generalize (s.data.drop f).take (t - f) = sub at *
  clear h hz hs hb hrd hcap1 hcap2
  go_enter Try.func107, Try.ntmps107
  go_wp2_with fail
  refine wp_region_ord (.pure 0 (.pure 1 (.pure 2 (.pure 3 (.pure 4 (.pure 5 (.pure 6 (.pure 7 (.pure 8 (.pure 9 (.pure 10 (.pure 11 (.eff 12 (.pure 13 (.eff 14 .nil))))))))))))))) (fun y => SrcC y q s (.slice (some ⟨b, off, none⟩) s.data.length dc) wv) (fun y => Sts W (blkP w.heap.size (.cells zeroPdu 45 (0, 0)) :: blkP q (.cells (s.cells (.slice (some ⟨b, off, none⟩) s.data.length dc) wv) 64 (0, 0)) :: rowP 5 1 (.slice (some ⟨b, off, none⟩) s.data.length dc) s.data.length (u8s s.data) :: rowP 81 2 wv s.wanted.length (Fil.rcells s.wanted) :: l) y) (by kernel_rfl) (by kernel_rfl) (HS.out.drew (stabC (blkP_stable _ _) hl3)) (fun _ h => Sts.srcC h.tail) ?_
  iterate 11
    (apply ord_pure (ho := rfl)
     · go_simp
     · intro x hx; have k1 := hx.k1; have k2 := hx.k2; have k3 := hx.k3; have k4 := hx.k4; have k5 := hx.k5; have k20 := hx.k20; go_simp; rfl
     apply ord_norm
     · go_simp; rfl)
  apply ord_pure (ho := rfl)
  · go_simp
  · intro x hx
    go_simp
    rfl
  apply ord_norm
  · go_simp; rfl
  apply ord_eff (ho := rfl)
  · go_simp
  intro y hy
  refine eff_call (f := 56) (by go_simp) (HCLO.out y hy) ?_
  rintro e w2 ⟨r, rfl, hN⟩
  have hs2 := (hy.new (stabC (blkP_stable _ _) hl3) hN).swap
  rw [u8s_len] at hs2
  obtain ⟨pa, pc, hde⟩ := hN.rd.eq
  rw [u8s_len] at hde
  subst hde
  refine ⟨_, rfl, (fun y => SrcC y q s (.slice (some ⟨b, off, none⟩) s.data.length dc) wv) , (fun y => Sts W (blkP w.heap.size (.cells zeroPdu 45 (0, 0)) :: rowP 5 1 (.slice pa sub.length pc) sub.length (u8s sub) :: blkP q (.cells (s.cells (.slice (some ⟨b, off, none⟩) s.data.length dc) wv) 64 (0, 0)) :: rowP 5 1 (.slice (some ⟨b, off, none⟩) s.data.length dc) s.data.length (u8s s.data) :: rowP 81 2 wv s.wanted.length (Fil.rcells s.wanted) :: l) y), hs2, (fun _ h => Sts.srcC h.tail.tail), (fun _ h => h), ?_⟩
  have hl5 : ∀ B ∈ rowP 5 1 (.slice pa sub.length pc) sub.length (u8s sub) :: blkP q (.cells (s.cells (.slice (some ⟨b, off, none⟩) s.data.length dc) wv) 64 (0, 0)) :: rowP 5 1 (.slice (some ⟨b, off, none⟩) s.data.length dc) s.data.length (u8s s.data) :: rowP 81 2 wv s.wanted.length (Fil.rcells s.wanted) :: l, Stable B := stabC (rowP_stable _ _ _ _ _) hl3
  clear hs2 hN hy y HCLO
  apply ord_norm
  · go_simp; rfl
  iterate 1
    (apply ord_pure (ho := rfl)
     · go_simp
     · intro x hx; have k1 := hx.k1; have k2 := hx.k2; have k3 := hx.k3; have k4 := hx.k4; have k5 := hx.k5; have k20 := hx.k20; go_simp; rfl
     apply ord_norm
     · go_simp; rfl)
  apply ord_eff (ho := rfl)
  · go_simp
  intro y hy
  have hy2 := Sts.storeAll hl5 (Fil.pieceP s f pa sub pc).cells.toList 0 _ _ hy
  rw [show putAll 0 (Fil.pieceP s f pa sub pc).cells.toList zeroPdu = (Fil.pieceP s f pa sub pc).cells by kernel_rfl] at hy2
  have fr : ∀ j, y.frozen? ⟨w.heap.size, j, none⟩ = false := fun j => by obtain ⟨F, hF⟩ := hy.head; exact free_blk hF.1
  have z0 := (Sts.boxCell hy 0 _ rfl).1
  have z1 := (Sts.boxCell hy 1 _ rfl).1
  have z2 := (Sts.boxCell hy 2 _ rfl).1
  have z3 := (Sts.boxCell hy 3 _ rfl).1
  have z4 := (Sts.boxCell hy 4 _ rfl).1
  have z5 := (Sts.boxCell hy 5 _ rfl).1
  have z6 := (Sts.boxCell hy 6 _ rfl).1
  have z7 := (Sts.boxCell hy 7 _ rfl).1
  have z8 := (Sts.boxCell hy 8 _ rfl).1
  have z9 := (Sts.boxCell hy 9 _ rfl).1
  have z10 := (Sts.boxCell hy 10 _ rfl).1
  refine eff_skip (fun y => SrcC y q s (.slice (some ⟨b, off, none⟩) s.data.length dc) wv) (fun y => Sts W (blkP w.heap.size (.cells (Fil.pieceP s f pa sub pc).cells 45 (0, 0)) :: rowP 5 1 (.slice pa sub.length pc) sub.length (u8s sub) :: blkP q (.cells (s.cells (.slice (some ⟨b, off, none⟩) s.data.length dc) wv) 64 (0, 0)) :: rowP 5 1 (.slice (some ⟨b, off, none⟩) s.data.length dc) s.data.length (u8s s.data) :: rowP 81 2 wv s.wanted.length (Fil.rcells s.wanted) :: l) y) (w := (((((((((((y.setCell ⟨w.heap.size, 0, none⟩ (.int .i64 2)).setCell ⟨w.heap.size, 1, none⟩ (.int .i64 s.src)).setCell ⟨w.heap.size, 2, none⟩ (.int .i64 s.num)).setCell ⟨w.heap.size, 3, none⟩ (.int .i64 0)).setCell ⟨w.heap.size, 4, none⟩ (.string ⟨#[]⟩)).setCell ⟨w.heap.size, 5, none⟩ (.int .i64 0)).setCell ⟨w.heap.size, 6, none⟩ (.int .i64 (f : Nat))).setCell ⟨w.heap.size, 7, none⟩ (.slice pa sub.length pc)).setCell ⟨w.heap.size, 8, none⟩ (.int .u32 0)).setCell ⟨w.heap.size, 9, none⟩ (.int .i64 0)).setCell ⟨w.heap.size, 10, none⟩ (.slice none 0 0))) ?_ hy2 (fun _ h => Sts.srcC h.tail.tail) (fun _ h => h) ?_
  · clear hy2
    go_simp
  clear hy hy2
  apply ord_norm
  · go_simp; rfl
  refine ord_nil fun z hz => ?_
  have HF := hid hz
  have e0 : z.cell? ⟨w.heap.size, 0, none⟩ = some (.int .i64 2) := (Sts.boxCell hz 0 _ rfl).1
  have e1 : z.cell? ⟨w.heap.size, 1, none⟩ = some (.int .i64 s.src) := (Sts.boxCell hz 1 _ rfl).1
  have e2 : z.cell? ⟨w.heap.size, 2, none⟩ = some (.int .i64 s.num) := (Sts.boxCell hz 2 _ rfl).1
  have e3 : z.cell? ⟨w.heap.size, 3, none⟩ = some (.int .i64 0) := (Sts.boxCell hz 3 _ rfl).1
  have e4 : z.cell? ⟨w.heap.size, 4, none⟩ = some (.string ⟨#[]⟩) := (Sts.boxCell hz 4 _ rfl).1
  have e5 : z.cell? ⟨w.heap.size, 5, none⟩ = some (.int .i64 0) := (Sts.boxCell hz 5 _ rfl).1
  have e6 : z.cell? ⟨w.heap.size, 6, none⟩ = some (.int .i64 (f : Nat)) := (Sts.boxCell hz 6 _ rfl).1
  have e7 : z.cell? ⟨w.heap.size, 7, none⟩ = some (.slice pa sub.length pc) := (Sts.boxCell hz 7 _ rfl).1
  have e8 : z.cell? ⟨w.heap.size, 8, none⟩ = some (.int .u32 0) := (Sts.boxCell hz 8 _ rfl).1
  have e9 : z.cell? ⟨w.heap.size, 9, none⟩ = some (.int .i64 0) := (Sts.boxCell hz 9 _ rfl).1
  have e10 : z.cell? ⟨w.heap.size, 10, none⟩ = some (.slice none 0 0) := (Sts.boxCell hz 10 _ rfl).1
  clear hz fr z0 z1 z2 z3 z4 z5 z6 z7 z8 z9 z10
  go_wp2_with fail
  refine bodyPost_ret (v := .agg #[.int .i64 2, .int .i64 s.src, .int .i64 s.num, .int .i64 0, .string ⟨#[]⟩, .int .i64 0, .int .i64 (f : Nat), .slice pa sub.length pc, .int .u32 0, .int .i64 0, .slice none 0 0]) ?_ rfl ⟨pa, pc, rfl, Sts.shutSrc ((HF.out.tail).perm ((List.perm_middle (l₁ := [_, _, _]) (l₂ := l)).symm))⟩
  simp [results, Try.results107, go_sem, e0, e1, e2, e3, e4, e5, e6, e7, e8, e9, e10]
end
end Go.Proofs.Ytfjadhkhmhnccaa
