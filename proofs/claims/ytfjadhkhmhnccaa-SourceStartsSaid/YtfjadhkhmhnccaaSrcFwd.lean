/- The contracts of what the sending end sends forward. -/
import Derived.Test.YtfjadhkhmhnccaaSrcPce
set_option linter.unusedVariables false
set_option linter.unusedSimpArgs false
namespace Go.Proofs.Ytfjadhkhmhnccaa
open Go.RowKit Go.Proofs.Num
section
variable {W w : World} {l : List HProp} (hl : ∀ B ∈ l, Stable B) (q : Nat) (s : Fil.Src) (hs : Sts W (srcP q s :: l) w)
include hl hs
set_option maxRecDepth 100000 in
set_option maxHeartbeats 1000000 in
theorem cFwdMeta (h0 : s.started = false) : Calls Try.prog 65 #[.pointer (some ⟨q, 0, none⟩)] w fun e w' => e = .returned (.agg (Fil.headP s.src s.num s.cls s.name s.data.length).cells) ∧ Sts W (srcP q { s with started := true } :: l) w' := by
  obtain ⟨dv, wv, h⟩ := Sts.openSrc hs
  obtain ⟨da, dc, hde⟩ := (Rd.of_own (Sts.rowOwn (h.swap)) (u8s_len _)).eq
  rw [u8s_len] at hde
  subst hde
  have hl3 : ∀ B ∈ blkP q (.cells (s.cells (.slice da s.data.length dc) wv) 64 (0, 0)) :: rowP 5 1 (.slice da s.data.length dc) s.data.length (u8s s.data) :: rowP 81 2 wv s.wanted.length (Fil.rcells s.wanted) :: l, Stable B := stabC (blkP_stable _ _) (stabC (rowP_stable _ _ _ _ _) (stabC (rowP_stable _ _ _ _ _) hl))
  have hz : Sts W (blkP w.heap.size (.cells zeroPdu 45 (0, 0)) :: blkP q (.cells (s.cells (.slice da s.data.length dc) wv) 64 (0, 0)) :: rowP 5 1 (.slice da s.data.length dc) s.data.length (u8s s.data) :: rowP 81 2 wv s.wanted.length (Fil.rcells s.wanted) :: l) (w.alloc (.cells #[.int .i64 0, .int .i64 0, .int .i64 0, .int .i64 0, .string ⟨#[]⟩, .int .i64 0, .int .i64 0, .slice none 0 0, .int .u32 0, .int .i64 0, .slice none 0 0] 45)) := h.alloc hl3 (.cells zeroPdu 45 (0, 0))
  have hC := Sts.srcC hz.swap
  have k12 := hC.k12
  rw [h0] at k12
  have fr12 := hC.fr 12
  have hl4 : ∀ B ∈ blkP w.heap.size (.cells zeroPdu 45 (0, 0)) :: rowP 5 1 (.slice da s.data.length dc) s.data.length (u8s s.data) :: rowP 81 2 wv s.wanted.length (Fil.rcells s.wanted) :: l, Stable B := stabC (blkP_stable _ _) (stabC (rowP_stable _ _ _ _ _) (stabC (rowP_stable _ _ _ _ _) hl))
  have hl6 : ∀ B ∈ blkP w.heap.size (.cells zeroPdu 45 (0, 0)) :: l, Stable B := stabC (blkP_stable _ _) hl
  have st1 := Sts.store hl4 hz.swap (j := 12) (.bool true)
  have hs1 := Sts.shutSrc (s := { s with started := true }) (dv := .slice da s.data.length dc) (wv := wv) ((st1.swap).perm ((List.perm_middle (l₁ := [_, _, _]) (l₂ := l)).symm))
  have HM := hid (cMetadata hl6 q { s with started := true } hs1)
  clear st1 hs1 hC hz h hs h0
  go_enter Try.func65, Try.ntmps65
  go_wp2_with (first | (go_at_call 63; refine HM.out.mono ?_; rintro e w2 ⟨he, hw2⟩; obtain rfl : e = .returned (.agg #[.int .i64 1, .int .i64 s.src, .int .i64 s.num, .int .i64 s.cls, .string s.name, .int .i64 s.data.length, .int .i64 0, .slice none 0 0, .int .u32 0, .int .i64 0, .slice none 0 0]) := he; have HS := hid (hw2.swap); have fz : ∀ j, w2.frozen? ⟨w.heap.size, j, none⟩ = false := fun j => (by obtain ⟨F, hF⟩ := HS.out.head; exact free_blk hF.1); have z0 := (Sts.boxCell HS.out 0 _ rfl).1; have z1 := (Sts.boxCell HS.out 1 _ rfl).1; have z2 := (Sts.boxCell HS.out 2 _ rfl).1; have z3 := (Sts.boxCell HS.out 3 _ rfl).1; have z4 := (Sts.boxCell HS.out 4 _ rfl).1; have z5 := (Sts.boxCell HS.out 5 _ rfl).1; have z6 := (Sts.boxCell HS.out 6 _ rfl).1; have z7 := (Sts.boxCell HS.out 7 _ rfl).1; have z8 := (Sts.boxCell HS.out 8 _ rfl).1; have z9 := (Sts.boxCell HS.out 9 _ rfl).1; have z10 := (Sts.boxCell HS.out 10 _ rfl).1; clear hw2 HM))
  have hf := Sts.storeAll (stabC (srcP_stable _ _) hl) (Fil.headP s.src s.num s.cls s.name s.data.length).cells.toList 0 _ _ HS.out
  rw [show putAll 0 (Fil.headP s.src s.num s.cls s.name s.data.length).cells.toList zeroPdu = (Fil.headP s.src s.num s.cls s.name s.data.length).cells by kernel_rfl] at hf
  clear HS fz z0 z1 z2 z3 z4 z5 z6 z7 z8 z9 z10
  refine (show ∀ z, Sts W (blkP w.heap.size (.cells (Fil.headP s.src s.num s.cls s.name s.data.length).cells 45 (0, 0)) :: srcP q { s with started := true } :: l) z → bodyPost _ _ _ _ _ z from ?_) _ hf
  clear hf
  intro z hz
  have e0 : z.cell? ⟨w.heap.size, 0, none⟩ = some (.int .i64 1) := (Sts.boxCell hz 0 _ rfl).1
  have e1 : z.cell? ⟨w.heap.size, 1, none⟩ = some (.int .i64 s.src) := (Sts.boxCell hz 1 _ rfl).1
  have e2 : z.cell? ⟨w.heap.size, 2, none⟩ = some (.int .i64 s.num) := (Sts.boxCell hz 2 _ rfl).1
  have e3 : z.cell? ⟨w.heap.size, 3, none⟩ = some (.int .i64 s.cls) := (Sts.boxCell hz 3 _ rfl).1
  have e4 : z.cell? ⟨w.heap.size, 4, none⟩ = some (.string s.name) := (Sts.boxCell hz 4 _ rfl).1
  have e5 : z.cell? ⟨w.heap.size, 5, none⟩ = some (.int .i64 s.data.length) := (Sts.boxCell hz 5 _ rfl).1
  have e6 : z.cell? ⟨w.heap.size, 6, none⟩ = some (.int .i64 0) := (Sts.boxCell hz 6 _ rfl).1
  have e7 : z.cell? ⟨w.heap.size, 7, none⟩ = some (.slice none 0 0) := (Sts.boxCell hz 7 _ rfl).1
  have e8 : z.cell? ⟨w.heap.size, 8, none⟩ = some (.int .u32 0) := (Sts.boxCell hz 8 _ rfl).1
  have e9 : z.cell? ⟨w.heap.size, 9, none⟩ = some (.int .i64 0) := (Sts.boxCell hz 9 _ rfl).1
  have e10 : z.cell? ⟨w.heap.size, 10, none⟩ = some (.slice none 0 0) := (Sts.boxCell hz 10 _ rfl).1
  have HF := hid hz
  clear hz
  refine bodyPost_ret (v := .agg #[.int .i64 1, .int .i64 s.src, .int .i64 s.num, .int .i64 s.cls, .string s.name, .int .i64 s.data.length, .int .i64 0, .slice none 0 0, .int .u32 0, .int .i64 0, .slice none 0 0]) ?_ rfl ⟨rfl, HF.out.tail⟩
  simp [results, Try.results65, go_sem, e0, e1, e2, e3, e4, e5, e6, e7, e8, e9, e10]
end
end Go.Proofs.Ytfjadhkhmhnccaa
