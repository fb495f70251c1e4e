/- The contract of the Eof unit. -/
import Derived.Test.YtfjadhkhmhnccaaSrcUnits
set_option linter.unusedVariables false
set_option linter.unusedSimpArgs false
namespace Fil
def eofP (s : Src) (code : Int) : Pdu := { kind := 3, src := s.src, num := s.num, cls := s.cls, size := (s.data.length : Nat), sum := sumV s.data, code := code }
end Fil
namespace Go.Proofs.Ytfjadhkhmhnccaa
open Go.RowKit Go.Proofs.Num
section
variable {W w : World} {l : List HProp} (hl : ∀ B ∈ l, Stable B) (q : Nat) (s : Fil.Src) (hs : Sts W (srcP q s :: l) w) (hn : s.data.length < 100000000) (hb : ∀ x ∈ s.data, x < 256)
include hl hs hn hb
set_option maxRecDepth 100000 in
set_option maxHeartbeats 1000000 in
theorem cEof (code : Int) : Calls Try.prog 62 #[.pointer (some ⟨q, 0, none⟩), .int .i64 code] w fun e w' => e = .returned (.agg (Fil.eofP s code).cells) ∧ Sts W (srcP q s :: l) w' := by
  obtain ⟨dv, wv, h⟩ := Sts.openSrc hs
  obtain ⟨da, dc, hde⟩ := (Rd.of_own (Sts.rowOwn (h.swap)) (u8s_len _)).eq
  rw [u8s_len] at hde
  subst hde
  have hl3 : ∀ B ∈ blkP q (.cells (s.cells (.slice da s.data.length dc) wv) 64 (0, 0)) :: rowP 5 1 (.slice da s.data.length dc) s.data.length (u8s s.data) :: rowP 81 2 wv s.wanted.length (Fil.rcells s.wanted) :: l, Stable B := stabC (blkP_stable _ _) (stabC (rowP_stable _ _ _ _ _) (stabC (rowP_stable _ _ _ _ _) hl))
  have hz := h.alloc hl3 (.cells zeroPdu 45 (0, 0))
  have HS := hid hz
  have HSUM := hid (fun y (hy : Sts W (blkP w.heap.size (.cells zeroPdu 45 (0, 0)) :: blkP q (.cells (s.cells (.slice da s.data.length dc) wv) 64 (0, 0)) :: rowP 5 1 (.slice da s.data.length dc) s.data.length (u8s s.data) :: rowP 81 2 wv s.wanted.length (Fil.rcells s.wanted) :: l) y) => cSum y (.slice da s.data.length dc) s.data ⟨Rd.of_own (Sts.rowOwn (hy.tail.tail)) (u8s_len _), hb⟩ hn)
  clear h hz hs hb
  go_enter Try.func62, Try.ntmps62
  go_wp2_with fail
  refine wp_region_ord (.pure 0 (.pure 1 (.pure 2 (.pure 3 (.pure 4 (.pure 5 (.pure 6 (.pure 7 (.pure 8 (.pure 9 (.pure 10 (.pure 11 (.pure 12 (.pure 13 (.pure 14 (.pure 15 (.pure 16 (.pure 18 (.eff 17 (.pure 19 (.eff 20 .nil))))))))))))))))))))) (fun y => SrcC y q s (.slice da s.data.length dc) wv) (fun y => Sts W (blkP w.heap.size (.cells zeroPdu 45 (0, 0)) :: blkP q (.cells (s.cells (.slice da s.data.length dc) wv) 64 (0, 0)) :: rowP 5 1 (.slice da s.data.length dc) s.data.length (u8s s.data) :: rowP 81 2 wv s.wanted.length (Fil.rcells s.wanted) :: l) y) (by kernel_rfl) (by kernel_rfl) (HS.out.drew (stabC (blkP_stable _ _) hl3)) (fun _ h => Sts.srcC h.tail) ?_
  iterate 18
    (apply ord_pure (ho := rfl)
     · go_simp
     · intro x hx; have k1 := hx.k1; have k2 := hx.k2; have k3 := hx.k3; have k4 := hx.k4; have k5 := hx.k5; have k20 := hx.k20; go_simp; rfl
     apply ord_norm
     · go_simp; rfl)
  apply ord_eff (ho := rfl)
  · go_simp
  intro y hy
  refine eff_call (f := 21) (by go_simp) (HSUM.out y hy) ?_
  rintro e w2 ⟨rfl, rfl⟩
  refine ⟨_, rfl, (fun y => SrcC y q s (.slice da s.data.length dc) wv) , (fun y => Sts W (blkP w.heap.size (.cells zeroPdu 45 (0, 0)) :: blkP q (.cells (s.cells (.slice da s.data.length dc) wv) 64 (0, 0)) :: rowP 5 1 (.slice da s.data.length dc) s.data.length (u8s s.data) :: rowP 81 2 wv s.wanted.length (Fil.rcells s.wanted) :: l) y), hy, (fun _ h => Sts.srcC h.tail), (fun _ h => h), ?_⟩
  clear hy y HSUM
  apply ord_norm
  · go_simp; rfl
  iterate 1
    (apply ord_pure (ho := rfl)
     · go_simp
     · intro x hx; have k1 := hx.k1; have k2 := hx.k2; have k3 := hx.k3; have k4 := hx.k4; have k5 := hx.k5; have k20 := hx.k20; go_simp; rfl
     apply ord_norm
     · go_simp; rfl)
  apply ord_eff (ho := rfl)
  · go_simp
  intro y hy
  have hy2 := Sts.storeAll hl3 (Fil.eofP s code).cells.toList 0 _ _ hy
  rw [show putAll 0 (Fil.eofP s code).cells.toList zeroPdu = (Fil.eofP s code).cells by kernel_rfl] at hy2
  have fr : ∀ j, y.frozen? ⟨w.heap.size, j, none⟩ = false := fun j => by obtain ⟨F, hF⟩ := hy.head; exact free_blk hF.1
  have z0 := (Sts.boxCell hy 0 _ rfl).1
  have z1 := (Sts.boxCell hy 1 _ rfl).1
  have z2 := (Sts.boxCell hy 2 _ rfl).1
  have z3 := (Sts.boxCell hy 3 _ rfl).1
  have z4 := (Sts.boxCell hy 4 _ rfl).1
  have z5 := (Sts.boxCell hy 5 _ rfl).1
  have z6 := (Sts.boxCell hy 6 _ rfl).1
  have z7 := (Sts.boxCell hy 7 _ rfl).1
  have z8 := (Sts.boxCell hy 8 _ rfl).1
  have z9 := (Sts.boxCell hy 9 _ rfl).1
  have z10 := (Sts.boxCell hy 10 _ rfl).1
  refine eff_skip (fun y => SrcC y q s (.slice da s.data.length dc) wv) (fun y => Sts W (blkP w.heap.size (.cells (Fil.eofP s code).cells 45 (0, 0)) :: blkP q (.cells (s.cells (.slice da s.data.length dc) wv) 64 (0, 0)) :: rowP 5 1 (.slice da s.data.length dc) s.data.length (u8s s.data) :: rowP 81 2 wv s.wanted.length (Fil.rcells s.wanted) :: l) y) (w := (((((((((((y.setCell ⟨w.heap.size, 0, none⟩ (.int .i64 3)).setCell ⟨w.heap.size, 1, none⟩ (.int .i64 s.src)).setCell ⟨w.heap.size, 2, none⟩ (.int .i64 s.num)).setCell ⟨w.heap.size, 3, none⟩ (.int .i64 s.cls)).setCell ⟨w.heap.size, 4, none⟩ (.string ⟨#[]⟩)).setCell ⟨w.heap.size, 5, none⟩ (.int .i64 s.data.length)).setCell ⟨w.heap.size, 6, none⟩ (.int .i64 0)).setCell ⟨w.heap.size, 7, none⟩ (.slice none 0 0)).setCell ⟨w.heap.size, 8, none⟩ (.int .u32 (Fil.sumV s.data : Nat))).setCell ⟨w.heap.size, 9, none⟩ (.int .i64 code)).setCell ⟨w.heap.size, 10, none⟩ (.slice none 0 0))) ?_ hy2 (fun _ h => Sts.srcC h.tail) (fun _ h => h) ?_
  · clear hy2
    go_simp
  clear hy hy2
  apply ord_norm
  · go_simp; rfl
  refine ord_nil fun z hz => ?_
  have HF := hid hz
  have e0 : z.cell? ⟨w.heap.size, 0, none⟩ = some (.int .i64 3) := (Sts.boxCell hz 0 _ rfl).1
  have e1 : z.cell? ⟨w.heap.size, 1, none⟩ = some (.int .i64 s.src) := (Sts.boxCell hz 1 _ rfl).1
  have e2 : z.cell? ⟨w.heap.size, 2, none⟩ = some (.int .i64 s.num) := (Sts.boxCell hz 2 _ rfl).1
  have e3 : z.cell? ⟨w.heap.size, 3, none⟩ = some (.int .i64 s.cls) := (Sts.boxCell hz 3 _ rfl).1
  have e4 : z.cell? ⟨w.heap.size, 4, none⟩ = some (.string ⟨#[]⟩) := (Sts.boxCell hz 4 _ rfl).1
  have e5 : z.cell? ⟨w.heap.size, 5, none⟩ = some (.int .i64 s.data.length) := (Sts.boxCell hz 5 _ rfl).1
  have e6 : z.cell? ⟨w.heap.size, 6, none⟩ = some (.int .i64 0) := (Sts.boxCell hz 6 _ rfl).1
  have e7 : z.cell? ⟨w.heap.size, 7, none⟩ = some (.slice none 0 0) := (Sts.boxCell hz 7 _ rfl).1
  have e8 : z.cell? ⟨w.heap.size, 8, none⟩ = some (.int .u32 (Fil.sumV s.data : Nat)) := (Sts.boxCell hz 8 _ rfl).1
  have e9 : z.cell? ⟨w.heap.size, 9, none⟩ = some (.int .i64 code) := (Sts.boxCell hz 9 _ rfl).1
  have e10 : z.cell? ⟨w.heap.size, 10, none⟩ = some (.slice none 0 0) := (Sts.boxCell hz 10 _ rfl).1
  clear hz fr z0 z1 z2 z3 z4 z5 z6 z7 z8 z9 z10
  go_wp2_with fail
  refine bodyPost_ret (v := .agg #[.int .i64 3, .int .i64 s.src, .int .i64 s.num, .int .i64 s.cls, .string ⟨#[]⟩, .int .i64 s.data.length, .int .i64 0, .slice none 0 0, .int .u32 (Fil.sumV s.data : Nat), .int .i64 code, .slice none 0 0]) ?_ rfl ⟨rfl, Sts.shutSrc (HF.out.tail)⟩
  simp [results, Try.results62, go_sem, e0, e1, e2, e3, e4, e5, e6, e7, e8, e9, e10]
end
end Go.Proofs.Ytfjadhkhmhnccaa
