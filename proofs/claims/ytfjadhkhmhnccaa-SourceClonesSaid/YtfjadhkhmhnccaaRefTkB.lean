/- The specification's Take, acknowledgement and end. -/
import Derived.Test.YtfjadhkhmhnccaaRefVal
import Derived.Test.YtfjadhkhmhnccaaRefNxC
import Derived.Test.YtfjadhkhmhnccaaSrcTke
set_option linter.unusedVariables false
set_option linter.unusedSimpArgs false
namespace Go.Proofs.Ytfjadhkhmhnccaa
open Go.RowKit Go.Proofs.Num
section
variable {W w : World} {l : List HProp} (hl : ∀ B ∈ l, Stable B) (zh : Value × List Rng.R) (q : Nat) (s s1 : Fil.Src) (da : Option Addr) (dc : Nat) (hs : Sts W (refP zh q s (.slice da s.data.length dc) :: l) w) (now : Int) (hp1 : s.pass now = s1) (hz0 : (s.phase + 1 == 0) = false) (hdl : s.data.length = s1.data.length) (p : Fil.Pdu) (hname : p.name.size ≤ 1000000) (hdata : p.data.length < 1000000000) (hgl : p.gaps.length < 1000) (hg : ∀ A y, Sts W (A :: l) y → RdR y (.slice p.ga p.gaps.length p.gc) p.gaps)
include hl hs hp1 hz0 hdl hname hdata hgl hg
set_option maxRecDepth 100000 in
set_option maxHeartbeats 4000000 in
theorem cRTakeStateNak (hv : p.validB = true) (i1 : (p.src == s1.src) = true) (i2 : (p.num == s1.num) = true) (hk : p.kind = 4) (hc : s1.cls = 1) : Calls Try.prog 72 #[.pointer (some ⟨q, 0, none⟩), .agg p.cells, .int .i64 now] w fun e w' => e = .returned (.int .i64 12) ∧ Sts W (refP zh q (s1) (.slice da s1.data.length dc) :: l) w' := by
  have HK := hid hk
  clear hk
  have HPC : p.cells = #[.int .i64 p.kind, .int .i64 p.src, .int .i64 p.num, .int .i64 p.cls, .string p.name, .int .i64 p.size, .int .i64 p.off, .slice p.da p.data.length p.dc, .int .u32 (p.sum : Nat), .int .i64 p.code, .slice p.ga p.gaps.length p.gc] := rfl
  rw [HPC]
  clear HPC
  rw [hdl] at hs
  have hls : ∀ B ∈ refP zh q s (.slice da s1.data.length dc) :: l, Stable B := stabC (refP_stable _ _ _ _) hl
  have hz : Sts W (blkP w.heap.size (.cells #[.int .i64 p.kind, .int .i64 p.src, .int .i64 p.num, .int .i64 p.cls, .string p.name, .int .i64 p.size, .int .i64 p.off, .slice p.da p.data.length p.dc, .int .u32 (p.sum : Nat), .int .i64 p.code, .slice p.ga p.gaps.length p.gc] 45 (0, 0)) :: refP zh q s (.slice da s1.data.length dc) :: l) (w.alloc (.cells #[.int .i64 p.kind, .int .i64 p.src, .int .i64 p.num, .int .i64 p.cls, .string p.name, .int .i64 p.size, .int .i64 p.off, .slice p.da p.data.length p.dc, .int .u32 (p.sum : Nat), .int .i64 p.code, .slice p.ga p.gaps.length p.gc] 45)) := hs.alloc hls (.cells #[.int .i64 p.kind, .int .i64 p.src, .int .i64 p.num, .int .i64 p.cls, .string p.name, .int .i64 p.size, .int .i64 p.off, .slice p.da p.data.length p.dc, .int .u32 (p.sum : Nat), .int .i64 p.code, .slice p.ga p.gaps.length p.gc] 45)
  have hbl : ∀ B ∈ blkP w.heap.size (.cells #[.int .i64 p.kind, .int .i64 p.src, .int .i64 p.num, .int .i64 p.cls, .string p.name, .int .i64 p.size, .int .i64 p.off, .slice p.da p.data.length p.dc, .int .u32 (p.sum : Nat), .int .i64 p.code, .slice p.ga p.gaps.length p.gc] 45 (0, 0)) :: l, Stable B := stabC (blkP_stable _ _) hl
  have hP := cClock hbl zh q s (.slice da s1.data.length dc) hz.swap now
  rw [hp1] at hP
  have HP := hid hP
  obtain ⟨wv0, h0⟩ := Sts.openRef hz.swap
  have k8 : (w.alloc (.cells #[.int .i64 p.kind, .int .i64 p.src, .int .i64 p.num, .int .i64 p.cls, .string p.name, .int .i64 p.size, .int .i64 p.off, .slice p.da p.data.length p.dc, .int .u32 (p.sum : Nat), .int .i64 p.code, .slice p.ga p.gaps.length p.gc] 45)).cell? ⟨q, 8, none⟩ = some (.int .i64 (s.phase + 1)) := (Sts.refC h0).k8
  have HL := hid hl
  have HBL := hid hbl
  have HG := hid hg
  clear hP h0 hz hs hl hbl hp1 hls hg hdl
  go_enter Try.func72, Try.ntmps72
  go_wp2_with (first | (go_at_call 109; refine HP.out.mono ?_; rintro e w1 ⟨rfl, h1⟩; obtain ⟨wv, h2⟩ := Sts.openRef h1; have HB := hid h2.third; clear h1 h2))
  have HLB : Hid (∀ B ∈ blkP w.heap.size (.cells #[.int .i64 p.kind, .int .i64 p.src, .int .i64 p.num, .int .i64 p.cls, .string p.name, .int .i64 p.size, .int .i64 p.off, .slice p.da p.data.length p.dc, .int .u32 (p.sum : Nat), .int .i64 p.code, .slice p.ga p.gaps.length p.gc] 45 (0, 0)) :: blkP q (.cells ((s1).rcs (.slice da s1.data.length dc) wv) 38 (0, 0)) :: ownW zh wv (s1).wanted :: l, Stable B) := hid (stabC (blkP_stable _ _) (stabC (blkP_stable _ _) (stabC (ownW_stable _ _ _) HL.out)))
  have hgb : ∀ y, Sts W (blkP w.heap.size (.cells #[.int .i64 p.kind, .int .i64 p.src, .int .i64 p.num, .int .i64 p.cls, .string p.name, .int .i64 p.size, .int .i64 p.off, .slice p.da p.data.length p.dc, .int .u32 (p.sum : Nat), .int .i64 p.code, .slice p.ga p.gaps.length p.gc] 45 (0, 0)) :: blkP q (.cells ((s1).rcs (.slice da s1.data.length dc) wv) 38 (0, 0)) :: ownW zh wv (s1).wanted :: l) y → RdR y (.slice p.ga p.gaps.length p.gc) p.gaps := fun y hy => HG.out _ y (Sts.shutRef hy.tail)
  refine wp_region_ord (.pure 0 (.eff 1 (.pure 2 (.pure 3 (.pure 4 (.pure 5 (.pure 6 (.pure 7 (.pure 8 (.pure 9 (.pure 10 (.pure 11 (.pure 12 (.pure 13 (.pure 14 (.pure 15 (.pure 16 (.pure 17 (.pure 18 (.pure 19 (.pure 20 (.pure 21 (.pure 22 (.pure 23 (.pure 24 (.pure 25 (.pure 26 .nil))))))))))))))))))))))))))) (fun y => RefC y q s1 (.slice da s1.data.length dc) wv ∧ PduC y w.heap.size p) (fun y => Sts W (blkP w.heap.size (.cells #[.int .i64 p.kind, .int .i64 p.src, .int .i64 p.num, .int .i64 p.cls, .string p.name, .int .i64 p.size, .int .i64 p.off, .slice p.da p.data.length p.dc, .int .u32 (p.sum : Nat), .int .i64 p.code, .slice p.ga p.gaps.length p.gc] 45 (0, 0)) :: blkP q (.cells ((s1).rcs (.slice da s1.data.length dc) wv) 38 (0, 0)) :: ownW zh wv (s1).wanted :: l) y) (by kernel_rfl) (by kernel_rfl) (HB.out.drew HLB.out) (fun y hy => ⟨Sts.refC hy.tail, ⟨(Sts.boxCell hy 0 _ rfl).1, (Sts.boxCell hy 1 _ rfl).1, (Sts.boxCell hy 2 _ rfl).1, (Sts.boxCell hy 3 _ rfl).1, (Sts.boxCell hy 4 _ rfl).1, (Sts.boxCell hy 5 _ rfl).1, (Sts.boxCell hy 6 _ rfl).1, (Sts.boxCell hy 7 _ rfl).1, (Sts.boxCell hy 8 _ rfl).1, (Sts.boxCell hy 9 _ rfl).1, (Sts.boxCell hy 10 _ rfl).1⟩⟩) ?_
  apply ord_pure (ho := rfl)
  · go_simp
  · intro x hx; obtain ⟨hC, hP⟩ := hx; have k0 := hC.k0; have k1 := hC.k1; have p0 := hP.c0; have p1 := hP.c1; have p2 := hP.c2; have p3 := hP.c3; have p4 := hP.c4; have p5 := hP.c5; have p6 := hP.c6; have p7 := hP.c7; have p8 := hP.c8; have p9 := hP.c9; have p10 := hP.c10; clear hC hP; go_simp; rfl
  apply ord_norm
  · go_simp; rfl
  apply ord_eff (ho := rfl)
  · go_simp
  intro y hy
  refine eff_call (f := 57) (by go_simp; rfl) (cRefValid y p hname hdata (by omega) (hgb y hy)) ?_
  rintro e w2 ⟨rfl, hb⟩
  refine ⟨_, rfl, (fun y => RefC y q s1 (.slice da s1.data.length dc) wv ∧ PduC y w.heap.size p), (fun y => Sts W (blkP w.heap.size (.cells #[.int .i64 p.kind, .int .i64 p.src, .int .i64 p.num, .int .i64 p.cls, .string p.name, .int .i64 p.size, .int .i64 p.off, .slice p.da p.data.length p.dc, .int .u32 (p.sum : Nat), .int .i64 p.code, .slice p.ga p.gaps.length p.gc] 45 (0, 0)) :: blkP q (.cells ((s1).rcs (.slice da s1.data.length dc) wv) 38 (0, 0)) :: ownW zh wv (s1).wanted :: l) y), hy.quiet HLB.out hb, (fun y hy => ⟨Sts.refC hy.tail, ⟨(Sts.boxCell hy 0 _ rfl).1, (Sts.boxCell hy 1 _ rfl).1, (Sts.boxCell hy 2 _ rfl).1, (Sts.boxCell hy 3 _ rfl).1, (Sts.boxCell hy 4 _ rfl).1, (Sts.boxCell hy 5 _ rfl).1, (Sts.boxCell hy 6 _ rfl).1, (Sts.boxCell hy 7 _ rfl).1, (Sts.boxCell hy 8 _ rfl).1, (Sts.boxCell hy 9 _ rfl).1, (Sts.boxCell hy 10 _ rfl).1⟩⟩), (fun _ h => h), ?_⟩
  rw [hv]
  clear hb hy y
  apply ord_norm
  · go_simp; rfl
  iterate 2
    (apply ord_pure (ho := rfl)
     · go_simp
     · intro x hx; obtain ⟨hC, hP⟩ := hx; have k0 := hC.k0; have k1 := hC.k1; have p0 := hP.c0; have p1 := hP.c1; have p2 := hP.c2; have p3 := hP.c3; have p4 := hP.c4; have p5 := hP.c5; have p6 := hP.c6; have p7 := hP.c7; have p8 := hP.c8; have p9 := hP.c9; have p10 := hP.c10; rw [HK.out] at p0; clear hC hP; go_simp; rfl
     apply ord_norm
     · go_simp; rfl)
  iterate 9
    (apply ord_pure (ho := rfl)
     · go_simp
     · intro x hx; obtain ⟨hC, hP⟩ := hx; have k0 := hC.k0; have k1 := hC.k1; have p0 := hP.c0; have p1 := hP.c1; have p2 := hP.c2; have p3 := hP.c3; have p4 := hP.c4; have p5 := hP.c5; have p6 := hP.c6; have p7 := hP.c7; have p8 := hP.c8; have p9 := hP.c9; have p10 := hP.c10; rw [HK.out] at p0; clear hC hP; go_simp; rfl
     apply ord_norm
     · go_simp; rfl)
  iterate 4
    (apply ord_pure (ho := rfl)
     · go_simp
     · intro x hx; obtain ⟨hC, hP⟩ := hx; have k0 := hC.k0; have k1 := hC.k1; have p0 := hP.c0; have p1 := hP.c1; have p2 := hP.c2; have p3 := hP.c3; have p4 := hP.c4; have p5 := hP.c5; have p6 := hP.c6; have p7 := hP.c7; have p8 := hP.c8; have p9 := hP.c9; have p10 := hP.c10; rw [HK.out] at p0; clear hC hP; go_simp; rfl
     apply ord_norm
     · go_simp; rfl)
  iterate 3
    (apply ord_skip (ho := rfl)
     · go_simp
       try (intro hu; cases hu)
     apply ord_norm
     · go_simp; rfl)
  iterate 2
    (apply ord_pure (ho := rfl)
     · go_simp
     · intro x hx; obtain ⟨hC, hP⟩ := hx; have k0 := hC.k0; have k1 := hC.k1; have p0 := hP.c0; have p1 := hP.c1; have p2 := hP.c2; have p3 := hP.c3; have p4 := hP.c4; have p5 := hP.c5; have p6 := hP.c6; have p7 := hP.c7; have p8 := hP.c8; have p9 := hP.c9; have p10 := hP.c10; rw [HK.out] at p0; clear hC hP; go_simp; rfl
     apply ord_norm
     · go_simp; rfl)
  iterate 3
    (apply ord_skip (ho := rfl)
     · go_simp
       try (intro hu; cases hu)
     apply ord_norm
     · go_simp; rfl)
  iterate 2
    (apply ord_pure (ho := rfl)
     · go_simp
     · intro x hx; obtain ⟨hC, hP⟩ := hx; have k0 := hC.k0; have k1 := hC.k1; have p0 := hP.c0; have p1 := hP.c1; have p2 := hP.c2; have p3 := hP.c3; have p4 := hP.c4; have p5 := hP.c5; have p6 := hP.c6; have p7 := hP.c7; have p8 := hP.c8; have p9 := hP.c9; have p10 := hP.c10; rw [HK.out] at p0; clear hC hP; go_simp; rfl
     apply ord_norm
     · go_simp; rfl)
  refine ord_nil fun z hz => ?_
  have hC := Sts.refC hz.tail
  have k2 := hC.k2
  have k8 := hC.k8
  have k4 := hC.k4
  clear hC
  have p0 := (Sts.boxCell hz 0 _ rfl).1
  have p9 := (Sts.boxCell hz 9 _ rfl).1
  have p10 := (Sts.boxCell hz 10 _ rfl).1
  rw [HK.out] at p0
  rw [hc] at k2
  have HZ := hid ((Sts.shutRef hz.tail))
  clear hz HB
  go_wp2_with fail
  go_ret
  exact ⟨rfl, HZ.out⟩
set_option maxRecDepth 100000 in
set_option maxHeartbeats 4000000 in
theorem cRTakeStateFin (hv : p.validB = true) (i1 : (p.src == s1.src) = true) (i2 : (p.num == s1.num) = true) (hk : p.kind = 5) (hc : s1.cls = 1) : Calls Try.prog 72 #[.pointer (some ⟨q, 0, none⟩), .agg p.cells, .int .i64 now] w fun e w' => e = .returned (.int .i64 12) ∧ Sts W (refP zh q (s1) (.slice da s1.data.length dc) :: l) w' := by
  have HK := hid hk
  clear hk
  have HPC : p.cells = #[.int .i64 p.kind, .int .i64 p.src, .int .i64 p.num, .int .i64 p.cls, .string p.name, .int .i64 p.size, .int .i64 p.off, .slice p.da p.data.length p.dc, .int .u32 (p.sum : Nat), .int .i64 p.code, .slice p.ga p.gaps.length p.gc] := rfl
  rw [HPC]
  clear HPC
  rw [hdl] at hs
  have hls : ∀ B ∈ refP zh q s (.slice da s1.data.length dc) :: l, Stable B := stabC (refP_stable _ _ _ _) hl
  have hz : Sts W (blkP w.heap.size (.cells #[.int .i64 p.kind, .int .i64 p.src, .int .i64 p.num, .int .i64 p.cls, .string p.name, .int .i64 p.size, .int .i64 p.off, .slice p.da p.data.length p.dc, .int .u32 (p.sum : Nat), .int .i64 p.code, .slice p.ga p.gaps.length p.gc] 45 (0, 0)) :: refP zh q s (.slice da s1.data.length dc) :: l) (w.alloc (.cells #[.int .i64 p.kind, .int .i64 p.src, .int .i64 p.num, .int .i64 p.cls, .string p.name, .int .i64 p.size, .int .i64 p.off, .slice p.da p.data.length p.dc, .int .u32 (p.sum : Nat), .int .i64 p.code, .slice p.ga p.gaps.length p.gc] 45)) := hs.alloc hls (.cells #[.int .i64 p.kind, .int .i64 p.src, .int .i64 p.num, .int .i64 p.cls, .string p.name, .int .i64 p.size, .int .i64 p.off, .slice p.da p.data.length p.dc, .int .u32 (p.sum : Nat), .int .i64 p.code, .slice p.ga p.gaps.length p.gc] 45)
  have hbl : ∀ B ∈ blkP w.heap.size (.cells #[.int .i64 p.kind, .int .i64 p.src, .int .i64 p.num, .int .i64 p.cls, .string p.name, .int .i64 p.size, .int .i64 p.off, .slice p.da p.data.length p.dc, .int .u32 (p.sum : Nat), .int .i64 p.code, .slice p.ga p.gaps.length p.gc] 45 (0, 0)) :: l, Stable B := stabC (blkP_stable _ _) hl
  have hP := cClock hbl zh q s (.slice da s1.data.length dc) hz.swap now
  rw [hp1] at hP
  have HP := hid hP
  obtain ⟨wv0, h0⟩ := Sts.openRef hz.swap
  have k8 : (w.alloc (.cells #[.int .i64 p.kind, .int .i64 p.src, .int .i64 p.num, .int .i64 p.cls, .string p.name, .int .i64 p.size, .int .i64 p.off, .slice p.da p.data.length p.dc, .int .u32 (p.sum : Nat), .int .i64 p.code, .slice p.ga p.gaps.length p.gc] 45)).cell? ⟨q, 8, none⟩ = some (.int .i64 (s.phase + 1)) := (Sts.refC h0).k8
  have HL := hid hl
  have HBL := hid hbl
  have HG := hid hg
  clear hP h0 hz hs hl hbl hp1 hls hg hdl
  go_enter Try.func72, Try.ntmps72
  go_wp2_with (first | (go_at_call 109; refine HP.out.mono ?_; rintro e w1 ⟨rfl, h1⟩; obtain ⟨wv, h2⟩ := Sts.openRef h1; have HB := hid h2.third; clear h1 h2))
  have HLB : Hid (∀ B ∈ blkP w.heap.size (.cells #[.int .i64 p.kind, .int .i64 p.src, .int .i64 p.num, .int .i64 p.cls, .string p.name, .int .i64 p.size, .int .i64 p.off, .slice p.da p.data.length p.dc, .int .u32 (p.sum : Nat), .int .i64 p.code, .slice p.ga p.gaps.length p.gc] 45 (0, 0)) :: blkP q (.cells ((s1).rcs (.slice da s1.data.length dc) wv) 38 (0, 0)) :: ownW zh wv (s1).wanted :: l, Stable B) := hid (stabC (blkP_stable _ _) (stabC (blkP_stable _ _) (stabC (ownW_stable _ _ _) HL.out)))
  have hgb : ∀ y, Sts W (blkP w.heap.size (.cells #[.int .i64 p.kind, .int .i64 p.src, .int .i64 p.num, .int .i64 p.cls, .string p.name, .int .i64 p.size, .int .i64 p.off, .slice p.da p.data.length p.dc, .int .u32 (p.sum : Nat), .int .i64 p.code, .slice p.ga p.gaps.length p.gc] 45 (0, 0)) :: blkP q (.cells ((s1).rcs (.slice da s1.data.length dc) wv) 38 (0, 0)) :: ownW zh wv (s1).wanted :: l) y → RdR y (.slice p.ga p.gaps.length p.gc) p.gaps := fun y hy => HG.out _ y (Sts.shutRef hy.tail)
  refine wp_region_ord (.pure 0 (.eff 1 (.pure 2 (.pure 3 (.pure 4 (.pure 5 (.pure 6 (.pure 7 (.pure 8 (.pure 9 (.pure 10 (.pure 11 (.pure 12 (.pure 13 (.pure 14 (.pure 15 (.pure 16 (.pure 17 (.pure 18 (.pure 19 (.pure 20 (.pure 21 (.pure 22 (.pure 23 (.pure 24 (.pure 25 (.pure 26 .nil))))))))))))))))))))))))))) (fun y => RefC y q s1 (.slice da s1.data.length dc) wv ∧ PduC y w.heap.size p) (fun y => Sts W (blkP w.heap.size (.cells #[.int .i64 p.kind, .int .i64 p.src, .int .i64 p.num, .int .i64 p.cls, .string p.name, .int .i64 p.size, .int .i64 p.off, .slice p.da p.data.length p.dc, .int .u32 (p.sum : Nat), .int .i64 p.code, .slice p.ga p.gaps.length p.gc] 45 (0, 0)) :: blkP q (.cells ((s1).rcs (.slice da s1.data.length dc) wv) 38 (0, 0)) :: ownW zh wv (s1).wanted :: l) y) (by kernel_rfl) (by kernel_rfl) (HB.out.drew HLB.out) (fun y hy => ⟨Sts.refC hy.tail, ⟨(Sts.boxCell hy 0 _ rfl).1, (Sts.boxCell hy 1 _ rfl).1, (Sts.boxCell hy 2 _ rfl).1, (Sts.boxCell hy 3 _ rfl).1, (Sts.boxCell hy 4 _ rfl).1, (Sts.boxCell hy 5 _ rfl).1, (Sts.boxCell hy 6 _ rfl).1, (Sts.boxCell hy 7 _ rfl).1, (Sts.boxCell hy 8 _ rfl).1, (Sts.boxCell hy 9 _ rfl).1, (Sts.boxCell hy 10 _ rfl).1⟩⟩) ?_
  apply ord_pure (ho := rfl)
  · go_simp
  · intro x hx; obtain ⟨hC, hP⟩ := hx; have k0 := hC.k0; have k1 := hC.k1; have p0 := hP.c0; have p1 := hP.c1; have p2 := hP.c2; have p3 := hP.c3; have p4 := hP.c4; have p5 := hP.c5; have p6 := hP.c6; have p7 := hP.c7; have p8 := hP.c8; have p9 := hP.c9; have p10 := hP.c10; clear hC hP; go_simp; rfl
  apply ord_norm
  · go_simp; rfl
  apply ord_eff (ho := rfl)
  · go_simp
  intro y hy
  refine eff_call (f := 57) (by go_simp; rfl) (cRefValid y p hname hdata (by omega) (hgb y hy)) ?_
  rintro e w2 ⟨rfl, hb⟩
  refine ⟨_, rfl, (fun y => RefC y q s1 (.slice da s1.data.length dc) wv ∧ PduC y w.heap.size p), (fun y => Sts W (blkP w.heap.size (.cells #[.int .i64 p.kind, .int .i64 p.src, .int .i64 p.num, .int .i64 p.cls, .string p.name, .int .i64 p.size, .int .i64 p.off, .slice p.da p.data.length p.dc, .int .u32 (p.sum : Nat), .int .i64 p.code, .slice p.ga p.gaps.length p.gc] 45 (0, 0)) :: blkP q (.cells ((s1).rcs (.slice da s1.data.length dc) wv) 38 (0, 0)) :: ownW zh wv (s1).wanted :: l) y), hy.quiet HLB.out hb, (fun y hy => ⟨Sts.refC hy.tail, ⟨(Sts.boxCell hy 0 _ rfl).1, (Sts.boxCell hy 1 _ rfl).1, (Sts.boxCell hy 2 _ rfl).1, (Sts.boxCell hy 3 _ rfl).1, (Sts.boxCell hy 4 _ rfl).1, (Sts.boxCell hy 5 _ rfl).1, (Sts.boxCell hy 6 _ rfl).1, (Sts.boxCell hy 7 _ rfl).1, (Sts.boxCell hy 8 _ rfl).1, (Sts.boxCell hy 9 _ rfl).1, (Sts.boxCell hy 10 _ rfl).1⟩⟩), (fun _ h => h), ?_⟩
  rw [hv]
  clear hb hy y
  apply ord_norm
  · go_simp; rfl
  iterate 2
    (apply ord_pure (ho := rfl)
     · go_simp
     · intro x hx; obtain ⟨hC, hP⟩ := hx; have k0 := hC.k0; have k1 := hC.k1; have p0 := hP.c0; have p1 := hP.c1; have p2 := hP.c2; have p3 := hP.c3; have p4 := hP.c4; have p5 := hP.c5; have p6 := hP.c6; have p7 := hP.c7; have p8 := hP.c8; have p9 := hP.c9; have p10 := hP.c10; rw [HK.out] at p0; clear hC hP; go_simp; rfl
     apply ord_norm
     · go_simp; rfl)
  iterate 9
    (apply ord_pure (ho := rfl)
     · go_simp
     · intro x hx; obtain ⟨hC, hP⟩ := hx; have k0 := hC.k0; have k1 := hC.k1; have p0 := hP.c0; have p1 := hP.c1; have p2 := hP.c2; have p3 := hP.c3; have p4 := hP.c4; have p5 := hP.c5; have p6 := hP.c6; have p7 := hP.c7; have p8 := hP.c8; have p9 := hP.c9; have p10 := hP.c10; rw [HK.out] at p0; clear hC hP; go_simp; rfl
     apply ord_norm
     · go_simp; rfl)
  iterate 4
    (apply ord_pure (ho := rfl)
     · go_simp
     · intro x hx; obtain ⟨hC, hP⟩ := hx; have k0 := hC.k0; have k1 := hC.k1; have p0 := hP.c0; have p1 := hP.c1; have p2 := hP.c2; have p3 := hP.c3; have p4 := hP.c4; have p5 := hP.c5; have p6 := hP.c6; have p7 := hP.c7; have p8 := hP.c8; have p9 := hP.c9; have p10 := hP.c10; rw [HK.out] at p0; clear hC hP; go_simp; rfl
     apply ord_norm
     · go_simp; rfl)
  iterate 3
    (apply ord_pure (ho := rfl)
     · go_simp
     · intro x hx; obtain ⟨hC, hP⟩ := hx; have k0 := hC.k0; have k1 := hC.k1; have p0 := hP.c0; have p1 := hP.c1; have p2 := hP.c2; have p3 := hP.c3; have p4 := hP.c4; have p5 := hP.c5; have p6 := hP.c6; have p7 := hP.c7; have p8 := hP.c8; have p9 := hP.c9; have p10 := hP.c10; rw [HK.out] at p0; clear hC hP; go_simp; rfl
     apply ord_norm
     · go_simp; rfl)
  iterate 2
    (apply ord_pure (ho := rfl)
     · go_simp
     · intro x hx; obtain ⟨hC, hP⟩ := hx; have k0 := hC.k0; have k1 := hC.k1; have p0 := hP.c0; have p1 := hP.c1; have p2 := hP.c2; have p3 := hP.c3; have p4 := hP.c4; have p5 := hP.c5; have p6 := hP.c6; have p7 := hP.c7; have p8 := hP.c8; have p9 := hP.c9; have p10 := hP.c10; rw [HK.out] at p0; clear hC hP; go_simp; rfl
     apply ord_norm
     · go_simp; rfl)
  iterate 3
    (apply ord_skip (ho := rfl)
     · go_simp
       try (intro hu; cases hu)
     apply ord_norm
     · go_simp; rfl)
  iterate 2
    (apply ord_pure (ho := rfl)
     · go_simp
     · intro x hx; obtain ⟨hC, hP⟩ := hx; have k0 := hC.k0; have k1 := hC.k1; have p0 := hP.c0; have p1 := hP.c1; have p2 := hP.c2; have p3 := hP.c3; have p4 := hP.c4; have p5 := hP.c5; have p6 := hP.c6; have p7 := hP.c7; have p8 := hP.c8; have p9 := hP.c9; have p10 := hP.c10; rw [HK.out] at p0; clear hC hP; go_simp; rfl
     apply ord_norm
     · go_simp; rfl)
  refine ord_nil fun z hz => ?_
  have hC := Sts.refC hz.tail
  have k2 := hC.k2
  have k8 := hC.k8
  have k4 := hC.k4
  clear hC
  have p0 := (Sts.boxCell hz 0 _ rfl).1
  have p9 := (Sts.boxCell hz 9 _ rfl).1
  have p10 := (Sts.boxCell hz 10 _ rfl).1
  rw [HK.out] at p0
  rw [hc] at k2
  have HZ := hid ((Sts.shutRef hz.tail))
  clear hz HB
  go_wp2_with fail
  go_ret
  exact ⟨rfl, HZ.out⟩
set_option maxRecDepth 100000 in
set_option maxHeartbeats 4000000 in
theorem cRTakeStateAck (hv : p.validB = true) (i1 : (p.src == s1.src) = true) (i2 : (p.num == s1.num) = true) (hk : p.kind = 6) (hc : s1.cls = 1) : Calls Try.prog 72 #[.pointer (some ⟨q, 0, none⟩), .agg p.cells, .int .i64 now] w fun e w' => e = .returned (.int .i64 12) ∧ Sts W (refP zh q (s1) (.slice da s1.data.length dc) :: l) w' := by
  have HK := hid hk
  clear hk
  have HPC : p.cells = #[.int .i64 p.kind, .int .i64 p.src, .int .i64 p.num, .int .i64 p.cls, .string p.name, .int .i64 p.size, .int .i64 p.off, .slice p.da p.data.length p.dc, .int .u32 (p.sum : Nat), .int .i64 p.code, .slice p.ga p.gaps.length p.gc] := rfl
  rw [HPC]
  clear HPC
  rw [hdl] at hs
  have hls : ∀ B ∈ refP zh q s (.slice da s1.data.length dc) :: l, Stable B := stabC (refP_stable _ _ _ _) hl
  have hz : Sts W (blkP w.heap.size (.cells #[.int .i64 p.kind, .int .i64 p.src, .int .i64 p.num, .int .i64 p.cls, .string p.name, .int .i64 p.size, .int .i64 p.off, .slice p.da p.data.length p.dc, .int .u32 (p.sum : Nat), .int .i64 p.code, .slice p.ga p.gaps.length p.gc] 45 (0, 0)) :: refP zh q s (.slice da s1.data.length dc) :: l) (w.alloc (.cells #[.int .i64 p.kind, .int .i64 p.src, .int .i64 p.num, .int .i64 p.cls, .string p.name, .int .i64 p.size, .int .i64 p.off, .slice p.da p.data.length p.dc, .int .u32 (p.sum : Nat), .int .i64 p.code, .slice p.ga p.gaps.length p.gc] 45)) := hs.alloc hls (.cells #[.int .i64 p.kind, .int .i64 p.src, .int .i64 p.num, .int .i64 p.cls, .string p.name, .int .i64 p.size, .int .i64 p.off, .slice p.da p.data.length p.dc, .int .u32 (p.sum : Nat), .int .i64 p.code, .slice p.ga p.gaps.length p.gc] 45)
  have hbl : ∀ B ∈ blkP w.heap.size (.cells #[.int .i64 p.kind, .int .i64 p.src, .int .i64 p.num, .int .i64 p.cls, .string p.name, .int .i64 p.size, .int .i64 p.off, .slice p.da p.data.length p.dc, .int .u32 (p.sum : Nat), .int .i64 p.code, .slice p.ga p.gaps.length p.gc] 45 (0, 0)) :: l, Stable B := stabC (blkP_stable _ _) hl
  have hP := cClock hbl zh q s (.slice da s1.data.length dc) hz.swap now
  rw [hp1] at hP
  have HP := hid hP
  obtain ⟨wv0, h0⟩ := Sts.openRef hz.swap
  have k8 : (w.alloc (.cells #[.int .i64 p.kind, .int .i64 p.src, .int .i64 p.num, .int .i64 p.cls, .string p.name, .int .i64 p.size, .int .i64 p.off, .slice p.da p.data.length p.dc, .int .u32 (p.sum : Nat), .int .i64 p.code, .slice p.ga p.gaps.length p.gc] 45)).cell? ⟨q, 8, none⟩ = some (.int .i64 (s.phase + 1)) := (Sts.refC h0).k8
  have HL := hid hl
  have HBL := hid hbl
  have HG := hid hg
  clear hP h0 hz hs hl hbl hp1 hls hg hdl
  go_enter Try.func72, Try.ntmps72
  go_wp2_with (first | (go_at_call 109; refine HP.out.mono ?_; rintro e w1 ⟨rfl, h1⟩; obtain ⟨wv, h2⟩ := Sts.openRef h1; have HB := hid h2.third; clear h1 h2))
  have HLB : Hid (∀ B ∈ blkP w.heap.size (.cells #[.int .i64 p.kind, .int .i64 p.src, .int .i64 p.num, .int .i64 p.cls, .string p.name, .int .i64 p.size, .int .i64 p.off, .slice p.da p.data.length p.dc, .int .u32 (p.sum : Nat), .int .i64 p.code, .slice p.ga p.gaps.length p.gc] 45 (0, 0)) :: blkP q (.cells ((s1).rcs (.slice da s1.data.length dc) wv) 38 (0, 0)) :: ownW zh wv (s1).wanted :: l, Stable B) := hid (stabC (blkP_stable _ _) (stabC (blkP_stable _ _) (stabC (ownW_stable _ _ _) HL.out)))
  have hgb : ∀ y, Sts W (blkP w.heap.size (.cells #[.int .i64 p.kind, .int .i64 p.src, .int .i64 p.num, .int .i64 p.cls, .string p.name, .int .i64 p.size, .int .i64 p.off, .slice p.da p.data.length p.dc, .int .u32 (p.sum : Nat), .int .i64 p.code, .slice p.ga p.gaps.length p.gc] 45 (0, 0)) :: blkP q (.cells ((s1).rcs (.slice da s1.data.length dc) wv) 38 (0, 0)) :: ownW zh wv (s1).wanted :: l) y → RdR y (.slice p.ga p.gaps.length p.gc) p.gaps := fun y hy => HG.out _ y (Sts.shutRef hy.tail)
  refine wp_region_ord (.pure 0 (.eff 1 (.pure 2 (.pure 3 (.pure 4 (.pure 5 (.pure 6 (.pure 7 (.pure 8 (.pure 9 (.pure 10 (.pure 11 (.pure 12 (.pure 13 (.pure 14 (.pure 15 (.pure 16 (.pure 17 (.pure 18 (.pure 19 (.pure 20 (.pure 21 (.pure 22 (.pure 23 (.pure 24 (.pure 25 (.pure 26 .nil))))))))))))))))))))))))))) (fun y => RefC y q s1 (.slice da s1.data.length dc) wv ∧ PduC y w.heap.size p) (fun y => Sts W (blkP w.heap.size (.cells #[.int .i64 p.kind, .int .i64 p.src, .int .i64 p.num, .int .i64 p.cls, .string p.name, .int .i64 p.size, .int .i64 p.off, .slice p.da p.data.length p.dc, .int .u32 (p.sum : Nat), .int .i64 p.code, .slice p.ga p.gaps.length p.gc] 45 (0, 0)) :: blkP q (.cells ((s1).rcs (.slice da s1.data.length dc) wv) 38 (0, 0)) :: ownW zh wv (s1).wanted :: l) y) (by kernel_rfl) (by kernel_rfl) (HB.out.drew HLB.out) (fun y hy => ⟨Sts.refC hy.tail, ⟨(Sts.boxCell hy 0 _ rfl).1, (Sts.boxCell hy 1 _ rfl).1, (Sts.boxCell hy 2 _ rfl).1, (Sts.boxCell hy 3 _ rfl).1, (Sts.boxCell hy 4 _ rfl).1, (Sts.boxCell hy 5 _ rfl).1, (Sts.boxCell hy 6 _ rfl).1, (Sts.boxCell hy 7 _ rfl).1, (Sts.boxCell hy 8 _ rfl).1, (Sts.boxCell hy 9 _ rfl).1, (Sts.boxCell hy 10 _ rfl).1⟩⟩) ?_
  apply ord_pure (ho := rfl)
  · go_simp
  · intro x hx; obtain ⟨hC, hP⟩ := hx; have k0 := hC.k0; have k1 := hC.k1; have p0 := hP.c0; have p1 := hP.c1; have p2 := hP.c2; have p3 := hP.c3; have p4 := hP.c4; have p5 := hP.c5; have p6 := hP.c6; have p7 := hP.c7; have p8 := hP.c8; have p9 := hP.c9; have p10 := hP.c10; clear hC hP; go_simp; rfl
  apply ord_norm
  · go_simp; rfl
  apply ord_eff (ho := rfl)
  · go_simp
  intro y hy
  refine eff_call (f := 57) (by go_simp; rfl) (cRefValid y p hname hdata (by omega) (hgb y hy)) ?_
  rintro e w2 ⟨rfl, hb⟩
  refine ⟨_, rfl, (fun y => RefC y q s1 (.slice da s1.data.length dc) wv ∧ PduC y w.heap.size p), (fun y => Sts W (blkP w.heap.size (.cells #[.int .i64 p.kind, .int .i64 p.src, .int .i64 p.num, .int .i64 p.cls, .string p.name, .int .i64 p.size, .int .i64 p.off, .slice p.da p.data.length p.dc, .int .u32 (p.sum : Nat), .int .i64 p.code, .slice p.ga p.gaps.length p.gc] 45 (0, 0)) :: blkP q (.cells ((s1).rcs (.slice da s1.data.length dc) wv) 38 (0, 0)) :: ownW zh wv (s1).wanted :: l) y), hy.quiet HLB.out hb, (fun y hy => ⟨Sts.refC hy.tail, ⟨(Sts.boxCell hy 0 _ rfl).1, (Sts.boxCell hy 1 _ rfl).1, (Sts.boxCell hy 2 _ rfl).1, (Sts.boxCell hy 3 _ rfl).1, (Sts.boxCell hy 4 _ rfl).1, (Sts.boxCell hy 5 _ rfl).1, (Sts.boxCell hy 6 _ rfl).1, (Sts.boxCell hy 7 _ rfl).1, (Sts.boxCell hy 8 _ rfl).1, (Sts.boxCell hy 9 _ rfl).1, (Sts.boxCell hy 10 _ rfl).1⟩⟩), (fun _ h => h), ?_⟩
  rw [hv]
  clear hb hy y
  apply ord_norm
  · go_simp; rfl
  iterate 2
    (apply ord_pure (ho := rfl)
     · go_simp
     · intro x hx; obtain ⟨hC, hP⟩ := hx; have k0 := hC.k0; have k1 := hC.k1; have p0 := hP.c0; have p1 := hP.c1; have p2 := hP.c2; have p3 := hP.c3; have p4 := hP.c4; have p5 := hP.c5; have p6 := hP.c6; have p7 := hP.c7; have p8 := hP.c8; have p9 := hP.c9; have p10 := hP.c10; rw [HK.out] at p0; clear hC hP; go_simp; rfl
     apply ord_norm
     · go_simp; rfl)
  iterate 23
    (apply ord_pure (ho := rfl)
     · go_simp
     · intro x hx; obtain ⟨hC, hP⟩ := hx; have k0 := hC.k0; have k1 := hC.k1; have p0 := hP.c0; have p1 := hP.c1; have p2 := hP.c2; have p3 := hP.c3; have p4 := hP.c4; have p5 := hP.c5; have p6 := hP.c6; have p7 := hP.c7; have p8 := hP.c8; have p9 := hP.c9; have p10 := hP.c10; rw [HK.out] at p0; clear hC hP; go_simp; rfl
     apply ord_norm
     · go_simp; rfl)
  refine ord_nil fun z hz => ?_
  have hC := Sts.refC hz.tail
  have k2 := hC.k2
  have k8 := hC.k8
  have k4 := hC.k4
  clear hC
  have p0 := (Sts.boxCell hz 0 _ rfl).1
  have p9 := (Sts.boxCell hz 9 _ rfl).1
  have p10 := (Sts.boxCell hz 10 _ rfl).1
  rw [HK.out] at p0
  rw [hc] at k2
  have HZ := hid ((Sts.shutRef hz.tail))
  clear hz HB
  go_wp2_with fail
  go_ret
  exact ⟨rfl, HZ.out⟩
set_option maxRecDepth 100000 in
set_option maxHeartbeats 4000000 in
theorem cRTakeAck0 (hv : p.validB = true) (i1 : (p.src == s1.src) = true) (i2 : (p.num == s1.num) = true) (hk : p.kind = 6) (hc : (s1.cls == 1) = false) (c1 : s1.phase = 0) : Calls Try.prog 72 #[.pointer (some ⟨q, 0, none⟩), .agg p.cells, .int .i64 now] w fun e w' => e = .returned (.int .i64 12) ∧ Sts W (refP zh q (s1) (.slice da s1.data.length dc) :: l) w' := by
  have HK := hid hk
  clear hk
  have HPC : p.cells = #[.int .i64 p.kind, .int .i64 p.src, .int .i64 p.num, .int .i64 p.cls, .string p.name, .int .i64 p.size, .int .i64 p.off, .slice p.da p.data.length p.dc, .int .u32 (p.sum : Nat), .int .i64 p.code, .slice p.ga p.gaps.length p.gc] := rfl
  rw [HPC]
  clear HPC
  rw [hdl] at hs
  have hls : ∀ B ∈ refP zh q s (.slice da s1.data.length dc) :: l, Stable B := stabC (refP_stable _ _ _ _) hl
  have hz : Sts W (blkP w.heap.size (.cells #[.int .i64 p.kind, .int .i64 p.src, .int .i64 p.num, .int .i64 p.cls, .string p.name, .int .i64 p.size, .int .i64 p.off, .slice p.da p.data.length p.dc, .int .u32 (p.sum : Nat), .int .i64 p.code, .slice p.ga p.gaps.length p.gc] 45 (0, 0)) :: refP zh q s (.slice da s1.data.length dc) :: l) (w.alloc (.cells #[.int .i64 p.kind, .int .i64 p.src, .int .i64 p.num, .int .i64 p.cls, .string p.name, .int .i64 p.size, .int .i64 p.off, .slice p.da p.data.length p.dc, .int .u32 (p.sum : Nat), .int .i64 p.code, .slice p.ga p.gaps.length p.gc] 45)) := hs.alloc hls (.cells #[.int .i64 p.kind, .int .i64 p.src, .int .i64 p.num, .int .i64 p.cls, .string p.name, .int .i64 p.size, .int .i64 p.off, .slice p.da p.data.length p.dc, .int .u32 (p.sum : Nat), .int .i64 p.code, .slice p.ga p.gaps.length p.gc] 45)
  have hbl : ∀ B ∈ blkP w.heap.size (.cells #[.int .i64 p.kind, .int .i64 p.src, .int .i64 p.num, .int .i64 p.cls, .string p.name, .int .i64 p.size, .int .i64 p.off, .slice p.da p.data.length p.dc, .int .u32 (p.sum : Nat), .int .i64 p.code, .slice p.ga p.gaps.length p.gc] 45 (0, 0)) :: l, Stable B := stabC (blkP_stable _ _) hl
  have hP := cClock hbl zh q s (.slice da s1.data.length dc) hz.swap now
  rw [hp1] at hP
  have HP := hid hP
  obtain ⟨wv0, h0⟩ := Sts.openRef hz.swap
  have k8 : (w.alloc (.cells #[.int .i64 p.kind, .int .i64 p.src, .int .i64 p.num, .int .i64 p.cls, .string p.name, .int .i64 p.size, .int .i64 p.off, .slice p.da p.data.length p.dc, .int .u32 (p.sum : Nat), .int .i64 p.code, .slice p.ga p.gaps.length p.gc] 45)).cell? ⟨q, 8, none⟩ = some (.int .i64 (s.phase + 1)) := (Sts.refC h0).k8
  have HL := hid hl
  have HBL := hid hbl
  have HG := hid hg
  clear hP h0 hz hs hl hbl hp1 hls hg hdl
  go_enter Try.func72, Try.ntmps72
  go_wp2_with (first | (go_at_call 109; refine HP.out.mono ?_; rintro e w1 ⟨rfl, h1⟩; obtain ⟨wv, h2⟩ := Sts.openRef h1; have HB := hid h2.third; clear h1 h2))
  have HLB : Hid (∀ B ∈ blkP w.heap.size (.cells #[.int .i64 p.kind, .int .i64 p.src, .int .i64 p.num, .int .i64 p.cls, .string p.name, .int .i64 p.size, .int .i64 p.off, .slice p.da p.data.length p.dc, .int .u32 (p.sum : Nat), .int .i64 p.code, .slice p.ga p.gaps.length p.gc] 45 (0, 0)) :: blkP q (.cells ((s1).rcs (.slice da s1.data.length dc) wv) 38 (0, 0)) :: ownW zh wv (s1).wanted :: l, Stable B) := hid (stabC (blkP_stable _ _) (stabC (blkP_stable _ _) (stabC (ownW_stable _ _ _) HL.out)))
  have hgb : ∀ y, Sts W (blkP w.heap.size (.cells #[.int .i64 p.kind, .int .i64 p.src, .int .i64 p.num, .int .i64 p.cls, .string p.name, .int .i64 p.size, .int .i64 p.off, .slice p.da p.data.length p.dc, .int .u32 (p.sum : Nat), .int .i64 p.code, .slice p.ga p.gaps.length p.gc] 45 (0, 0)) :: blkP q (.cells ((s1).rcs (.slice da s1.data.length dc) wv) 38 (0, 0)) :: ownW zh wv (s1).wanted :: l) y → RdR y (.slice p.ga p.gaps.length p.gc) p.gaps := fun y hy => HG.out _ y (Sts.shutRef hy.tail)
  refine wp_region_ord (.pure 0 (.eff 1 (.pure 2 (.pure 3 (.pure 4 (.pure 5 (.pure 6 (.pure 7 (.pure 8 (.pure 9 (.pure 10 (.pure 11 (.pure 12 (.pure 13 (.pure 14 (.pure 15 (.pure 16 (.pure 17 (.pure 18 (.pure 19 (.pure 20 (.pure 21 (.pure 22 (.pure 23 (.pure 24 (.pure 25 (.pure 26 .nil))))))))))))))))))))))))))) (fun y => RefC y q s1 (.slice da s1.data.length dc) wv ∧ PduC y w.heap.size p) (fun y => Sts W (blkP w.heap.size (.cells #[.int .i64 p.kind, .int .i64 p.src, .int .i64 p.num, .int .i64 p.cls, .string p.name, .int .i64 p.size, .int .i64 p.off, .slice p.da p.data.length p.dc, .int .u32 (p.sum : Nat), .int .i64 p.code, .slice p.ga p.gaps.length p.gc] 45 (0, 0)) :: blkP q (.cells ((s1).rcs (.slice da s1.data.length dc) wv) 38 (0, 0)) :: ownW zh wv (s1).wanted :: l) y) (by kernel_rfl) (by kernel_rfl) (HB.out.drew HLB.out) (fun y hy => ⟨Sts.refC hy.tail, ⟨(Sts.boxCell hy 0 _ rfl).1, (Sts.boxCell hy 1 _ rfl).1, (Sts.boxCell hy 2 _ rfl).1, (Sts.boxCell hy 3 _ rfl).1, (Sts.boxCell hy 4 _ rfl).1, (Sts.boxCell hy 5 _ rfl).1, (Sts.boxCell hy 6 _ rfl).1, (Sts.boxCell hy 7 _ rfl).1, (Sts.boxCell hy 8 _ rfl).1, (Sts.boxCell hy 9 _ rfl).1, (Sts.boxCell hy 10 _ rfl).1⟩⟩) ?_
  apply ord_pure (ho := rfl)
  · go_simp
  · intro x hx; obtain ⟨hC, hP⟩ := hx; have k0 := hC.k0; have k1 := hC.k1; have p0 := hP.c0; have p1 := hP.c1; have p2 := hP.c2; have p3 := hP.c3; have p4 := hP.c4; have p5 := hP.c5; have p6 := hP.c6; have p7 := hP.c7; have p8 := hP.c8; have p9 := hP.c9; have p10 := hP.c10; clear hC hP; go_simp; rfl
  apply ord_norm
  · go_simp; rfl
  apply ord_eff (ho := rfl)
  · go_simp
  intro y hy
  refine eff_call (f := 57) (by go_simp; rfl) (cRefValid y p hname hdata (by omega) (hgb y hy)) ?_
  rintro e w2 ⟨rfl, hb⟩
  refine ⟨_, rfl, (fun y => RefC y q s1 (.slice da s1.data.length dc) wv ∧ PduC y w.heap.size p), (fun y => Sts W (blkP w.heap.size (.cells #[.int .i64 p.kind, .int .i64 p.src, .int .i64 p.num, .int .i64 p.cls, .string p.name, .int .i64 p.size, .int .i64 p.off, .slice p.da p.data.length p.dc, .int .u32 (p.sum : Nat), .int .i64 p.code, .slice p.ga p.gaps.length p.gc] 45 (0, 0)) :: blkP q (.cells ((s1).rcs (.slice da s1.data.length dc) wv) 38 (0, 0)) :: ownW zh wv (s1).wanted :: l) y), hy.quiet HLB.out hb, (fun y hy => ⟨Sts.refC hy.tail, ⟨(Sts.boxCell hy 0 _ rfl).1, (Sts.boxCell hy 1 _ rfl).1, (Sts.boxCell hy 2 _ rfl).1, (Sts.boxCell hy 3 _ rfl).1, (Sts.boxCell hy 4 _ rfl).1, (Sts.boxCell hy 5 _ rfl).1, (Sts.boxCell hy 6 _ rfl).1, (Sts.boxCell hy 7 _ rfl).1, (Sts.boxCell hy 8 _ rfl).1, (Sts.boxCell hy 9 _ rfl).1, (Sts.boxCell hy 10 _ rfl).1⟩⟩), (fun _ h => h), ?_⟩
  rw [hv]
  clear hb hy y
  apply ord_norm
  · go_simp; rfl
  iterate 2
    (apply ord_pure (ho := rfl)
     · go_simp
     · intro x hx; obtain ⟨hC, hP⟩ := hx; have k0 := hC.k0; have k1 := hC.k1; have p0 := hP.c0; have p1 := hP.c1; have p2 := hP.c2; have p3 := hP.c3; have p4 := hP.c4; have p5 := hP.c5; have p6 := hP.c6; have p7 := hP.c7; have p8 := hP.c8; have p9 := hP.c9; have p10 := hP.c10; rw [HK.out] at p0; clear hC hP; go_simp; rfl
     apply ord_norm
     · go_simp; rfl)
  iterate 23
    (apply ord_pure (ho := rfl)
     · go_simp
     · intro x hx; obtain ⟨hC, hP⟩ := hx; have k0 := hC.k0; have k1 := hC.k1; have p0 := hP.c0; have p1 := hP.c1; have p2 := hP.c2; have p3 := hP.c3; have p4 := hP.c4; have p5 := hP.c5; have p6 := hP.c6; have p7 := hP.c7; have p8 := hP.c8; have p9 := hP.c9; have p10 := hP.c10; rw [HK.out] at p0; clear hC hP; go_simp; rfl
     apply ord_norm
     · go_simp; rfl)
  refine ord_nil fun z hz => ?_
  have hC := Sts.refC hz.tail
  have k2 := hC.k2
  have k8 := hC.k8
  have k4 := hC.k4
  clear hC
  have p0 := (Sts.boxCell hz 0 _ rfl).1
  have p9 := (Sts.boxCell hz 9 _ rfl).1
  have p10 := (Sts.boxCell hz 10 _ rfl).1
  rw [HK.out] at p0
  rw [c1] at k8
  have HZ := hid ((Sts.shutRef hz.tail))
  clear hz HB
  go_wp2_with fail
  go_ret
  exact ⟨rfl, HZ.out⟩
set_option maxRecDepth 100000 in
set_option maxHeartbeats 4000000 in
theorem cRTakeAck1 (hv : p.validB = true) (i1 : (p.src == s1.src) = true) (i2 : (p.num == s1.num) = true) (hk : p.kind = 6) (hc : (s1.cls == 1) = false) (c1 : s1.phase = 1) : Calls Try.prog 72 #[.pointer (some ⟨q, 0, none⟩), .agg p.cells, .int .i64 now] w fun e w' => e = .returned (.int .i64 0) ∧ Sts W (refP zh q ({ s1 with acked := true }) (.slice da s1.data.length dc) :: l) w' := by
  have HK := hid hk
  clear hk
  have HPC : p.cells = #[.int .i64 p.kind, .int .i64 p.src, .int .i64 p.num, .int .i64 p.cls, .string p.name, .int .i64 p.size, .int .i64 p.off, .slice p.da p.data.length p.dc, .int .u32 (p.sum : Nat), .int .i64 p.code, .slice p.ga p.gaps.length p.gc] := rfl
  rw [HPC]
  clear HPC
  rw [hdl] at hs
  have hls : ∀ B ∈ refP zh q s (.slice da s1.data.length dc) :: l, Stable B := stabC (refP_stable _ _ _ _) hl
  have hz : Sts W (blkP w.heap.size (.cells #[.int .i64 p.kind, .int .i64 p.src, .int .i64 p.num, .int .i64 p.cls, .string p.name, .int .i64 p.size, .int .i64 p.off, .slice p.da p.data.length p.dc, .int .u32 (p.sum : Nat), .int .i64 p.code, .slice p.ga p.gaps.length p.gc] 45 (0, 0)) :: refP zh q s (.slice da s1.data.length dc) :: l) (w.alloc (.cells #[.int .i64 p.kind, .int .i64 p.src, .int .i64 p.num, .int .i64 p.cls, .string p.name, .int .i64 p.size, .int .i64 p.off, .slice p.da p.data.length p.dc, .int .u32 (p.sum : Nat), .int .i64 p.code, .slice p.ga p.gaps.length p.gc] 45)) := hs.alloc hls (.cells #[.int .i64 p.kind, .int .i64 p.src, .int .i64 p.num, .int .i64 p.cls, .string p.name, .int .i64 p.size, .int .i64 p.off, .slice p.da p.data.length p.dc, .int .u32 (p.sum : Nat), .int .i64 p.code, .slice p.ga p.gaps.length p.gc] 45)
  have hbl : ∀ B ∈ blkP w.heap.size (.cells #[.int .i64 p.kind, .int .i64 p.src, .int .i64 p.num, .int .i64 p.cls, .string p.name, .int .i64 p.size, .int .i64 p.off, .slice p.da p.data.length p.dc, .int .u32 (p.sum : Nat), .int .i64 p.code, .slice p.ga p.gaps.length p.gc] 45 (0, 0)) :: l, Stable B := stabC (blkP_stable _ _) hl
  have hP := cClock hbl zh q s (.slice da s1.data.length dc) hz.swap now
  rw [hp1] at hP
  have HP := hid hP
  obtain ⟨wv0, h0⟩ := Sts.openRef hz.swap
  have k8 : (w.alloc (.cells #[.int .i64 p.kind, .int .i64 p.src, .int .i64 p.num, .int .i64 p.cls, .string p.name, .int .i64 p.size, .int .i64 p.off, .slice p.da p.data.length p.dc, .int .u32 (p.sum : Nat), .int .i64 p.code, .slice p.ga p.gaps.length p.gc] 45)).cell? ⟨q, 8, none⟩ = some (.int .i64 (s.phase + 1)) := (Sts.refC h0).k8
  have HL := hid hl
  have HBL := hid hbl
  have HG := hid hg
  clear hP h0 hz hs hl hbl hp1 hls hg hdl
  go_enter Try.func72, Try.ntmps72
  go_wp2_with (first | (go_at_call 109; refine HP.out.mono ?_; rintro e w1 ⟨rfl, h1⟩; obtain ⟨wv, h2⟩ := Sts.openRef h1; have HB := hid h2.third; clear h1 h2))
  have HLB : Hid (∀ B ∈ blkP w.heap.size (.cells #[.int .i64 p.kind, .int .i64 p.src, .int .i64 p.num, .int .i64 p.cls, .string p.name, .int .i64 p.size, .int .i64 p.off, .slice p.da p.data.length p.dc, .int .u32 (p.sum : Nat), .int .i64 p.code, .slice p.ga p.gaps.length p.gc] 45 (0, 0)) :: blkP q (.cells ((s1).rcs (.slice da s1.data.length dc) wv) 38 (0, 0)) :: ownW zh wv (s1).wanted :: l, Stable B) := hid (stabC (blkP_stable _ _) (stabC (blkP_stable _ _) (stabC (ownW_stable _ _ _) HL.out)))
  have hgb : ∀ y, Sts W (blkP w.heap.size (.cells #[.int .i64 p.kind, .int .i64 p.src, .int .i64 p.num, .int .i64 p.cls, .string p.name, .int .i64 p.size, .int .i64 p.off, .slice p.da p.data.length p.dc, .int .u32 (p.sum : Nat), .int .i64 p.code, .slice p.ga p.gaps.length p.gc] 45 (0, 0)) :: blkP q (.cells ((s1).rcs (.slice da s1.data.length dc) wv) 38 (0, 0)) :: ownW zh wv (s1).wanted :: l) y → RdR y (.slice p.ga p.gaps.length p.gc) p.gaps := fun y hy => HG.out _ y (Sts.shutRef hy.tail)
  refine wp_region_ord (.pure 0 (.eff 1 (.pure 2 (.pure 3 (.pure 4 (.pure 5 (.pure 6 (.pure 7 (.pure 8 (.pure 9 (.pure 10 (.pure 11 (.pure 12 (.pure 13 (.pure 14 (.pure 15 (.pure 16 (.pure 17 (.pure 18 (.pure 19 (.pure 20 (.pure 21 (.pure 22 (.pure 23 (.pure 24 (.pure 25 (.pure 26 .nil))))))))))))))))))))))))))) (fun y => RefC y q s1 (.slice da s1.data.length dc) wv ∧ PduC y w.heap.size p) (fun y => Sts W (blkP w.heap.size (.cells #[.int .i64 p.kind, .int .i64 p.src, .int .i64 p.num, .int .i64 p.cls, .string p.name, .int .i64 p.size, .int .i64 p.off, .slice p.da p.data.length p.dc, .int .u32 (p.sum : Nat), .int .i64 p.code, .slice p.ga p.gaps.length p.gc] 45 (0, 0)) :: blkP q (.cells ((s1).rcs (.slice da s1.data.length dc) wv) 38 (0, 0)) :: ownW zh wv (s1).wanted :: l) y) (by kernel_rfl) (by kernel_rfl) (HB.out.drew HLB.out) (fun y hy => ⟨Sts.refC hy.tail, ⟨(Sts.boxCell hy 0 _ rfl).1, (Sts.boxCell hy 1 _ rfl).1, (Sts.boxCell hy 2 _ rfl).1, (Sts.boxCell hy 3 _ rfl).1, (Sts.boxCell hy 4 _ rfl).1, (Sts.boxCell hy 5 _ rfl).1, (Sts.boxCell hy 6 _ rfl).1, (Sts.boxCell hy 7 _ rfl).1, (Sts.boxCell hy 8 _ rfl).1, (Sts.boxCell hy 9 _ rfl).1, (Sts.boxCell hy 10 _ rfl).1⟩⟩) ?_
  apply ord_pure (ho := rfl)
  · go_simp
  · intro x hx; obtain ⟨hC, hP⟩ := hx; have k0 := hC.k0; have k1 := hC.k1; have p0 := hP.c0; have p1 := hP.c1; have p2 := hP.c2; have p3 := hP.c3; have p4 := hP.c4; have p5 := hP.c5; have p6 := hP.c6; have p7 := hP.c7; have p8 := hP.c8; have p9 := hP.c9; have p10 := hP.c10; clear hC hP; go_simp; rfl
  apply ord_norm
  · go_simp; rfl
  apply ord_eff (ho := rfl)
  · go_simp
  intro y hy
  refine eff_call (f := 57) (by go_simp; rfl) (cRefValid y p hname hdata (by omega) (hgb y hy)) ?_
  rintro e w2 ⟨rfl, hb⟩
  refine ⟨_, rfl, (fun y => RefC y q s1 (.slice da s1.data.length dc) wv ∧ PduC y w.heap.size p), (fun y => Sts W (blkP w.heap.size (.cells #[.int .i64 p.kind, .int .i64 p.src, .int .i64 p.num, .int .i64 p.cls, .string p.name, .int .i64 p.size, .int .i64 p.off, .slice p.da p.data.length p.dc, .int .u32 (p.sum : Nat), .int .i64 p.code, .slice p.ga p.gaps.length p.gc] 45 (0, 0)) :: blkP q (.cells ((s1).rcs (.slice da s1.data.length dc) wv) 38 (0, 0)) :: ownW zh wv (s1).wanted :: l) y), hy.quiet HLB.out hb, (fun y hy => ⟨Sts.refC hy.tail, ⟨(Sts.boxCell hy 0 _ rfl).1, (Sts.boxCell hy 1 _ rfl).1, (Sts.boxCell hy 2 _ rfl).1, (Sts.boxCell hy 3 _ rfl).1, (Sts.boxCell hy 4 _ rfl).1, (Sts.boxCell hy 5 _ rfl).1, (Sts.boxCell hy 6 _ rfl).1, (Sts.boxCell hy 7 _ rfl).1, (Sts.boxCell hy 8 _ rfl).1, (Sts.boxCell hy 9 _ rfl).1, (Sts.boxCell hy 10 _ rfl).1⟩⟩), (fun _ h => h), ?_⟩
  rw [hv]
  clear hb hy y
  apply ord_norm
  · go_simp; rfl
  iterate 2
    (apply ord_pure (ho := rfl)
     · go_simp
     · intro x hx; obtain ⟨hC, hP⟩ := hx; have k0 := hC.k0; have k1 := hC.k1; have p0 := hP.c0; have p1 := hP.c1; have p2 := hP.c2; have p3 := hP.c3; have p4 := hP.c4; have p5 := hP.c5; have p6 := hP.c6; have p7 := hP.c7; have p8 := hP.c8; have p9 := hP.c9; have p10 := hP.c10; rw [HK.out] at p0; clear hC hP; go_simp; rfl
     apply ord_norm
     · go_simp; rfl)
  iterate 23
    (apply ord_pure (ho := rfl)
     · go_simp
     · intro x hx; obtain ⟨hC, hP⟩ := hx; have k0 := hC.k0; have k1 := hC.k1; have p0 := hP.c0; have p1 := hP.c1; have p2 := hP.c2; have p3 := hP.c3; have p4 := hP.c4; have p5 := hP.c5; have p6 := hP.c6; have p7 := hP.c7; have p8 := hP.c8; have p9 := hP.c9; have p10 := hP.c10; rw [HK.out] at p0; clear hC hP; go_simp; rfl
     apply ord_norm
     · go_simp; rfl)
  refine ord_nil fun z hz => ?_
  have hC := Sts.refC hz.tail
  have k2 := hC.k2
  have k8 := hC.k8
  have k4 := hC.k4
  clear hC
  have p0 := (Sts.boxCell hz 0 _ rfl).1
  have p9 := (Sts.boxCell hz 9 _ rfl).1
  have p10 := (Sts.boxCell hz 10 _ rfl).1
  rw [HK.out] at p0
  rw [c1] at k8
  clear c1
  have HQ := hid hz.swap
  clear hz HB
  go_wp2_with (first | (refine wpList_cell HQ.out (stabC (blkP_stable _ _) (stabC (ownW_stable _ _ _) HL.out)) rfl (.tmp 104) (.const (.bool true)) 4 rfl 16 (.bool true) rfl rfl szBool (show 16 < 20 by decide) rfl ?_; intro w3 hz; replace hz : Sts W (blkP q (.cells (({ s1 with acked := true }).rcs (.slice da s1.data.length dc) wv) 38 (0, 0)) :: blkP w.heap.size (.cells #[.int .i64 p.kind, .int .i64 p.src, .int .i64 p.num, .int .i64 p.cls, .string p.name, .int .i64 p.size, .int .i64 p.off, .slice p.da p.data.length p.dc, .int .u32 (p.sum : Nat), .int .i64 p.code, .slice p.ga p.gaps.length p.gc] 45 (0, 0)) :: ownW zh wv (s1).wanted :: l) w3 := hz; have H3 := hid hz; clear hz))
  go_ret
  exact ⟨rfl, Sts.shutRef (s := { s1 with acked := true }) (wv := wv) H3.out.swap.tail⟩
set_option maxRecDepth 100000 in
set_option maxHeartbeats 4000000 in
theorem cRTakeAck2 (hv : p.validB = true) (i1 : (p.src == s1.src) = true) (i2 : (p.num == s1.num) = true) (hk : p.kind = 6) (hc : (s1.cls == 1) = false) (c1 : (s1.phase + 1 == 1) = false) (c2 : (s1.phase + 1 == 2) = false) : Calls Try.prog 72 #[.pointer (some ⟨q, 0, none⟩), .agg p.cells, .int .i64 now] w fun e w' => e = .returned (.int .i64 0) ∧ Sts W (refP zh q (s1) (.slice da s1.data.length dc) :: l) w' := by
  have HK := hid hk
  clear hk
  have HPC : p.cells = #[.int .i64 p.kind, .int .i64 p.src, .int .i64 p.num, .int .i64 p.cls, .string p.name, .int .i64 p.size, .int .i64 p.off, .slice p.da p.data.length p.dc, .int .u32 (p.sum : Nat), .int .i64 p.code, .slice p.ga p.gaps.length p.gc] := rfl
  rw [HPC]
  clear HPC
  rw [hdl] at hs
  have hls : ∀ B ∈ refP zh q s (.slice da s1.data.length dc) :: l, Stable B := stabC (refP_stable _ _ _ _) hl
  have hz : Sts W (blkP w.heap.size (.cells #[.int .i64 p.kind, .int .i64 p.src, .int .i64 p.num, .int .i64 p.cls, .string p.name, .int .i64 p.size, .int .i64 p.off, .slice p.da p.data.length p.dc, .int .u32 (p.sum : Nat), .int .i64 p.code, .slice p.ga p.gaps.length p.gc] 45 (0, 0)) :: refP zh q s (.slice da s1.data.length dc) :: l) (w.alloc (.cells #[.int .i64 p.kind, .int .i64 p.src, .int .i64 p.num, .int .i64 p.cls, .string p.name, .int .i64 p.size, .int .i64 p.off, .slice p.da p.data.length p.dc, .int .u32 (p.sum : Nat), .int .i64 p.code, .slice p.ga p.gaps.length p.gc] 45)) := hs.alloc hls (.cells #[.int .i64 p.kind, .int .i64 p.src, .int .i64 p.num, .int .i64 p.cls, .string p.name, .int .i64 p.size, .int .i64 p.off, .slice p.da p.data.length p.dc, .int .u32 (p.sum : Nat), .int .i64 p.code, .slice p.ga p.gaps.length p.gc] 45)
  have hbl : ∀ B ∈ blkP w.heap.size (.cells #[.int .i64 p.kind, .int .i64 p.src, .int .i64 p.num, .int .i64 p.cls, .string p.name, .int .i64 p.size, .int .i64 p.off, .slice p.da p.data.length p.dc, .int .u32 (p.sum : Nat), .int .i64 p.code, .slice p.ga p.gaps.length p.gc] 45 (0, 0)) :: l, Stable B := stabC (blkP_stable _ _) hl
  have hP := cClock hbl zh q s (.slice da s1.data.length dc) hz.swap now
  rw [hp1] at hP
  have HP := hid hP
  obtain ⟨wv0, h0⟩ := Sts.openRef hz.swap
  have k8 : (w.alloc (.cells #[.int .i64 p.kind, .int .i64 p.src, .int .i64 p.num, .int .i64 p.cls, .string p.name, .int .i64 p.size, .int .i64 p.off, .slice p.da p.data.length p.dc, .int .u32 (p.sum : Nat), .int .i64 p.code, .slice p.ga p.gaps.length p.gc] 45)).cell? ⟨q, 8, none⟩ = some (.int .i64 (s.phase + 1)) := (Sts.refC h0).k8
  have HL := hid hl
  have HBL := hid hbl
  have HG := hid hg
  clear hP h0 hz hs hl hbl hp1 hls hg hdl
  go_enter Try.func72, Try.ntmps72
  go_wp2_with (first | (go_at_call 109; refine HP.out.mono ?_; rintro e w1 ⟨rfl, h1⟩; obtain ⟨wv, h2⟩ := Sts.openRef h1; have HB := hid h2.third; clear h1 h2))
  have HLB : Hid (∀ B ∈ blkP w.heap.size (.cells #[.int .i64 p.kind, .int .i64 p.src, .int .i64 p.num, .int .i64 p.cls, .string p.name, .int .i64 p.size, .int .i64 p.off, .slice p.da p.data.length p.dc, .int .u32 (p.sum : Nat), .int .i64 p.code, .slice p.ga p.gaps.length p.gc] 45 (0, 0)) :: blkP q (.cells ((s1).rcs (.slice da s1.data.length dc) wv) 38 (0, 0)) :: ownW zh wv (s1).wanted :: l, Stable B) := hid (stabC (blkP_stable _ _) (stabC (blkP_stable _ _) (stabC (ownW_stable _ _ _) HL.out)))
  have hgb : ∀ y, Sts W (blkP w.heap.size (.cells #[.int .i64 p.kind, .int .i64 p.src, .int .i64 p.num, .int .i64 p.cls, .string p.name, .int .i64 p.size, .int .i64 p.off, .slice p.da p.data.length p.dc, .int .u32 (p.sum : Nat), .int .i64 p.code, .slice p.ga p.gaps.length p.gc] 45 (0, 0)) :: blkP q (.cells ((s1).rcs (.slice da s1.data.length dc) wv) 38 (0, 0)) :: ownW zh wv (s1).wanted :: l) y → RdR y (.slice p.ga p.gaps.length p.gc) p.gaps := fun y hy => HG.out _ y (Sts.shutRef hy.tail)
  refine wp_region_ord (.pure 0 (.eff 1 (.pure 2 (.pure 3 (.pure 4 (.pure 5 (.pure 6 (.pure 7 (.pure 8 (.pure 9 (.pure 10 (.pure 11 (.pure 12 (.pure 13 (.pure 14 (.pure 15 (.pure 16 (.pure 17 (.pure 18 (.pure 19 (.pure 20 (.pure 21 (.pure 22 (.pure 23 (.pure 24 (.pure 25 (.pure 26 .nil))))))))))))))))))))))))))) (fun y => RefC y q s1 (.slice da s1.data.length dc) wv ∧ PduC y w.heap.size p) (fun y => Sts W (blkP w.heap.size (.cells #[.int .i64 p.kind, .int .i64 p.src, .int .i64 p.num, .int .i64 p.cls, .string p.name, .int .i64 p.size, .int .i64 p.off, .slice p.da p.data.length p.dc, .int .u32 (p.sum : Nat), .int .i64 p.code, .slice p.ga p.gaps.length p.gc] 45 (0, 0)) :: blkP q (.cells ((s1).rcs (.slice da s1.data.length dc) wv) 38 (0, 0)) :: ownW zh wv (s1).wanted :: l) y) (by kernel_rfl) (by kernel_rfl) (HB.out.drew HLB.out) (fun y hy => ⟨Sts.refC hy.tail, ⟨(Sts.boxCell hy 0 _ rfl).1, (Sts.boxCell hy 1 _ rfl).1, (Sts.boxCell hy 2 _ rfl).1, (Sts.boxCell hy 3 _ rfl).1, (Sts.boxCell hy 4 _ rfl).1, (Sts.boxCell hy 5 _ rfl).1, (Sts.boxCell hy 6 _ rfl).1, (Sts.boxCell hy 7 _ rfl).1, (Sts.boxCell hy 8 _ rfl).1, (Sts.boxCell hy 9 _ rfl).1, (Sts.boxCell hy 10 _ rfl).1⟩⟩) ?_
  apply ord_pure (ho := rfl)
  · go_simp
  · intro x hx; obtain ⟨hC, hP⟩ := hx; have k0 := hC.k0; have k1 := hC.k1; have p0 := hP.c0; have p1 := hP.c1; have p2 := hP.c2; have p3 := hP.c3; have p4 := hP.c4; have p5 := hP.c5; have p6 := hP.c6; have p7 := hP.c7; have p8 := hP.c8; have p9 := hP.c9; have p10 := hP.c10; clear hC hP; go_simp; rfl
  apply ord_norm
  · go_simp; rfl
  apply ord_eff (ho := rfl)
  · go_simp
  intro y hy
  refine eff_call (f := 57) (by go_simp; rfl) (cRefValid y p hname hdata (by omega) (hgb y hy)) ?_
  rintro e w2 ⟨rfl, hb⟩
  refine ⟨_, rfl, (fun y => RefC y q s1 (.slice da s1.data.length dc) wv ∧ PduC y w.heap.size p), (fun y => Sts W (blkP w.heap.size (.cells #[.int .i64 p.kind, .int .i64 p.src, .int .i64 p.num, .int .i64 p.cls, .string p.name, .int .i64 p.size, .int .i64 p.off, .slice p.da p.data.length p.dc, .int .u32 (p.sum : Nat), .int .i64 p.code, .slice p.ga p.gaps.length p.gc] 45 (0, 0)) :: blkP q (.cells ((s1).rcs (.slice da s1.data.length dc) wv) 38 (0, 0)) :: ownW zh wv (s1).wanted :: l) y), hy.quiet HLB.out hb, (fun y hy => ⟨Sts.refC hy.tail, ⟨(Sts.boxCell hy 0 _ rfl).1, (Sts.boxCell hy 1 _ rfl).1, (Sts.boxCell hy 2 _ rfl).1, (Sts.boxCell hy 3 _ rfl).1, (Sts.boxCell hy 4 _ rfl).1, (Sts.boxCell hy 5 _ rfl).1, (Sts.boxCell hy 6 _ rfl).1, (Sts.boxCell hy 7 _ rfl).1, (Sts.boxCell hy 8 _ rfl).1, (Sts.boxCell hy 9 _ rfl).1, (Sts.boxCell hy 10 _ rfl).1⟩⟩), (fun _ h => h), ?_⟩
  rw [hv]
  clear hb hy y
  apply ord_norm
  · go_simp; rfl
  iterate 2
    (apply ord_pure (ho := rfl)
     · go_simp
     · intro x hx; obtain ⟨hC, hP⟩ := hx; have k0 := hC.k0; have k1 := hC.k1; have p0 := hP.c0; have p1 := hP.c1; have p2 := hP.c2; have p3 := hP.c3; have p4 := hP.c4; have p5 := hP.c5; have p6 := hP.c6; have p7 := hP.c7; have p8 := hP.c8; have p9 := hP.c9; have p10 := hP.c10; rw [HK.out] at p0; clear hC hP; go_simp; rfl
     apply ord_norm
     · go_simp; rfl)
  iterate 23
    (apply ord_pure (ho := rfl)
     · go_simp
     · intro x hx; obtain ⟨hC, hP⟩ := hx; have k0 := hC.k0; have k1 := hC.k1; have p0 := hP.c0; have p1 := hP.c1; have p2 := hP.c2; have p3 := hP.c3; have p4 := hP.c4; have p5 := hP.c5; have p6 := hP.c6; have p7 := hP.c7; have p8 := hP.c8; have p9 := hP.c9; have p10 := hP.c10; rw [HK.out] at p0; clear hC hP; go_simp; rfl
     apply ord_norm
     · go_simp; rfl)
  refine ord_nil fun z hz => ?_
  have hC := Sts.refC hz.tail
  have k2 := hC.k2
  have k8 := hC.k8
  have k4 := hC.k4
  clear hC
  have p0 := (Sts.boxCell hz 0 _ rfl).1
  have p9 := (Sts.boxCell hz 9 _ rfl).1
  have p10 := (Sts.boxCell hz 10 _ rfl).1
  rw [HK.out] at p0
  have HZ := hid ((Sts.shutRef hz.tail))
  clear hz HB
  go_wp2_with fail
  go_ret
  exact ⟨rfl, HZ.out⟩
set_option maxRecDepth 100000 in
set_option maxHeartbeats 4000000 in
theorem cRTakeFin2 (hv : p.validB = true) (i1 : (p.src == s1.src) = true) (i2 : (p.num == s1.num) = true) (hk : p.kind = 5) (hc : (s1.cls == 1) = false) (c1 : s1.phase = 2) : Calls Try.prog 72 #[.pointer (some ⟨q, 0, none⟩), .agg p.cells, .int .i64 now] w fun e w' => e = .returned (.int .i64 0) ∧ Sts W (refP zh q (s1) (.slice da s1.data.length dc) :: l) w' := by
  have HK := hid hk
  clear hk
  have HPC : p.cells = #[.int .i64 p.kind, .int .i64 p.src, .int .i64 p.num, .int .i64 p.cls, .string p.name, .int .i64 p.size, .int .i64 p.off, .slice p.da p.data.length p.dc, .int .u32 (p.sum : Nat), .int .i64 p.code, .slice p.ga p.gaps.length p.gc] := rfl
  rw [HPC]
  clear HPC
  rw [hdl] at hs
  have hls : ∀ B ∈ refP zh q s (.slice da s1.data.length dc) :: l, Stable B := stabC (refP_stable _ _ _ _) hl
  have hz : Sts W (blkP w.heap.size (.cells #[.int .i64 p.kind, .int .i64 p.src, .int .i64 p.num, .int .i64 p.cls, .string p.name, .int .i64 p.size, .int .i64 p.off, .slice p.da p.data.length p.dc, .int .u32 (p.sum : Nat), .int .i64 p.code, .slice p.ga p.gaps.length p.gc] 45 (0, 0)) :: refP zh q s (.slice da s1.data.length dc) :: l) (w.alloc (.cells #[.int .i64 p.kind, .int .i64 p.src, .int .i64 p.num, .int .i64 p.cls, .string p.name, .int .i64 p.size, .int .i64 p.off, .slice p.da p.data.length p.dc, .int .u32 (p.sum : Nat), .int .i64 p.code, .slice p.ga p.gaps.length p.gc] 45)) := hs.alloc hls (.cells #[.int .i64 p.kind, .int .i64 p.src, .int .i64 p.num, .int .i64 p.cls, .string p.name, .int .i64 p.size, .int .i64 p.off, .slice p.da p.data.length p.dc, .int .u32 (p.sum : Nat), .int .i64 p.code, .slice p.ga p.gaps.length p.gc] 45)
  have hbl : ∀ B ∈ blkP w.heap.size (.cells #[.int .i64 p.kind, .int .i64 p.src, .int .i64 p.num, .int .i64 p.cls, .string p.name, .int .i64 p.size, .int .i64 p.off, .slice p.da p.data.length p.dc, .int .u32 (p.sum : Nat), .int .i64 p.code, .slice p.ga p.gaps.length p.gc] 45 (0, 0)) :: l, Stable B := stabC (blkP_stable _ _) hl
  have hP := cClock hbl zh q s (.slice da s1.data.length dc) hz.swap now
  rw [hp1] at hP
  have HP := hid hP
  obtain ⟨wv0, h0⟩ := Sts.openRef hz.swap
  have k8 : (w.alloc (.cells #[.int .i64 p.kind, .int .i64 p.src, .int .i64 p.num, .int .i64 p.cls, .string p.name, .int .i64 p.size, .int .i64 p.off, .slice p.da p.data.length p.dc, .int .u32 (p.sum : Nat), .int .i64 p.code, .slice p.ga p.gaps.length p.gc] 45)).cell? ⟨q, 8, none⟩ = some (.int .i64 (s.phase + 1)) := (Sts.refC h0).k8
  have HL := hid hl
  have HBL := hid hbl
  have HG := hid hg
  clear hP h0 hz hs hl hbl hp1 hls hg hdl
  go_enter Try.func72, Try.ntmps72
  go_wp2_with (first | (go_at_call 109; refine HP.out.mono ?_; rintro e w1 ⟨rfl, h1⟩; obtain ⟨wv, h2⟩ := Sts.openRef h1; have HB := hid h2.third; clear h1 h2))
  have HLB : Hid (∀ B ∈ blkP w.heap.size (.cells #[.int .i64 p.kind, .int .i64 p.src, .int .i64 p.num, .int .i64 p.cls, .string p.name, .int .i64 p.size, .int .i64 p.off, .slice p.da p.data.length p.dc, .int .u32 (p.sum : Nat), .int .i64 p.code, .slice p.ga p.gaps.length p.gc] 45 (0, 0)) :: blkP q (.cells ((s1).rcs (.slice da s1.data.length dc) wv) 38 (0, 0)) :: ownW zh wv (s1).wanted :: l, Stable B) := hid (stabC (blkP_stable _ _) (stabC (blkP_stable _ _) (stabC (ownW_stable _ _ _) HL.out)))
  have hgb : ∀ y, Sts W (blkP w.heap.size (.cells #[.int .i64 p.kind, .int .i64 p.src, .int .i64 p.num, .int .i64 p.cls, .string p.name, .int .i64 p.size, .int .i64 p.off, .slice p.da p.data.length p.dc, .int .u32 (p.sum : Nat), .int .i64 p.code, .slice p.ga p.gaps.length p.gc] 45 (0, 0)) :: blkP q (.cells ((s1).rcs (.slice da s1.data.length dc) wv) 38 (0, 0)) :: ownW zh wv (s1).wanted :: l) y → RdR y (.slice p.ga p.gaps.length p.gc) p.gaps := fun y hy => HG.out _ y (Sts.shutRef hy.tail)
  refine wp_region_ord (.pure 0 (.eff 1 (.pure 2 (.pure 3 (.pure 4 (.pure 5 (.pure 6 (.pure 7 (.pure 8 (.pure 9 (.pure 10 (.pure 11 (.pure 12 (.pure 13 (.pure 14 (.pure 15 (.pure 16 (.pure 17 (.pure 18 (.pure 19 (.pure 20 (.pure 21 (.pure 22 (.pure 23 (.pure 24 (.pure 25 (.pure 26 .nil))))))))))))))))))))))))))) (fun y => RefC y q s1 (.slice da s1.data.length dc) wv ∧ PduC y w.heap.size p) (fun y => Sts W (blkP w.heap.size (.cells #[.int .i64 p.kind, .int .i64 p.src, .int .i64 p.num, .int .i64 p.cls, .string p.name, .int .i64 p.size, .int .i64 p.off, .slice p.da p.data.length p.dc, .int .u32 (p.sum : Nat), .int .i64 p.code, .slice p.ga p.gaps.length p.gc] 45 (0, 0)) :: blkP q (.cells ((s1).rcs (.slice da s1.data.length dc) wv) 38 (0, 0)) :: ownW zh wv (s1).wanted :: l) y) (by kernel_rfl) (by kernel_rfl) (HB.out.drew HLB.out) (fun y hy => ⟨Sts.refC hy.tail, ⟨(Sts.boxCell hy 0 _ rfl).1, (Sts.boxCell hy 1 _ rfl).1, (Sts.boxCell hy 2 _ rfl).1, (Sts.boxCell hy 3 _ rfl).1, (Sts.boxCell hy 4 _ rfl).1, (Sts.boxCell hy 5 _ rfl).1, (Sts.boxCell hy 6 _ rfl).1, (Sts.boxCell hy 7 _ rfl).1, (Sts.boxCell hy 8 _ rfl).1, (Sts.boxCell hy 9 _ rfl).1, (Sts.boxCell hy 10 _ rfl).1⟩⟩) ?_
  apply ord_pure (ho := rfl)
  · go_simp
  · intro x hx; obtain ⟨hC, hP⟩ := hx; have k0 := hC.k0; have k1 := hC.k1; have p0 := hP.c0; have p1 := hP.c1; have p2 := hP.c2; have p3 := hP.c3; have p4 := hP.c4; have p5 := hP.c5; have p6 := hP.c6; have p7 := hP.c7; have p8 := hP.c8; have p9 := hP.c9; have p10 := hP.c10; clear hC hP; go_simp; rfl
  apply ord_norm
  · go_simp; rfl
  apply ord_eff (ho := rfl)
  · go_simp
  intro y hy
  refine eff_call (f := 57) (by go_simp; rfl) (cRefValid y p hname hdata (by omega) (hgb y hy)) ?_
  rintro e w2 ⟨rfl, hb⟩
  refine ⟨_, rfl, (fun y => RefC y q s1 (.slice da s1.data.length dc) wv ∧ PduC y w.heap.size p), (fun y => Sts W (blkP w.heap.size (.cells #[.int .i64 p.kind, .int .i64 p.src, .int .i64 p.num, .int .i64 p.cls, .string p.name, .int .i64 p.size, .int .i64 p.off, .slice p.da p.data.length p.dc, .int .u32 (p.sum : Nat), .int .i64 p.code, .slice p.ga p.gaps.length p.gc] 45 (0, 0)) :: blkP q (.cells ((s1).rcs (.slice da s1.data.length dc) wv) 38 (0, 0)) :: ownW zh wv (s1).wanted :: l) y), hy.quiet HLB.out hb, (fun y hy => ⟨Sts.refC hy.tail, ⟨(Sts.boxCell hy 0 _ rfl).1, (Sts.boxCell hy 1 _ rfl).1, (Sts.boxCell hy 2 _ rfl).1, (Sts.boxCell hy 3 _ rfl).1, (Sts.boxCell hy 4 _ rfl).1, (Sts.boxCell hy 5 _ rfl).1, (Sts.boxCell hy 6 _ rfl).1, (Sts.boxCell hy 7 _ rfl).1, (Sts.boxCell hy 8 _ rfl).1, (Sts.boxCell hy 9 _ rfl).1, (Sts.boxCell hy 10 _ rfl).1⟩⟩), (fun _ h => h), ?_⟩
  rw [hv]
  clear hb hy y
  apply ord_norm
  · go_simp; rfl
  iterate 2
    (apply ord_pure (ho := rfl)
     · go_simp
     · intro x hx; obtain ⟨hC, hP⟩ := hx; have k0 := hC.k0; have k1 := hC.k1; have p0 := hP.c0; have p1 := hP.c1; have p2 := hP.c2; have p3 := hP.c3; have p4 := hP.c4; have p5 := hP.c5; have p6 := hP.c6; have p7 := hP.c7; have p8 := hP.c8; have p9 := hP.c9; have p10 := hP.c10; rw [HK.out] at p0; clear hC hP; go_simp; rfl
     apply ord_norm
     · go_simp; rfl)
  iterate 9
    (apply ord_pure (ho := rfl)
     · go_simp
     · intro x hx; obtain ⟨hC, hP⟩ := hx; have k0 := hC.k0; have k1 := hC.k1; have p0 := hP.c0; have p1 := hP.c1; have p2 := hP.c2; have p3 := hP.c3; have p4 := hP.c4; have p5 := hP.c5; have p6 := hP.c6; have p7 := hP.c7; have p8 := hP.c8; have p9 := hP.c9; have p10 := hP.c10; rw [HK.out] at p0; clear hC hP; go_simp; rfl
     apply ord_norm
     · go_simp; rfl)
  iterate 4
    (apply ord_pure (ho := rfl)
     · go_simp
     · intro x hx; obtain ⟨hC, hP⟩ := hx; have k0 := hC.k0; have k1 := hC.k1; have p0 := hP.c0; have p1 := hP.c1; have p2 := hP.c2; have p3 := hP.c3; have p4 := hP.c4; have p5 := hP.c5; have p6 := hP.c6; have p7 := hP.c7; have p8 := hP.c8; have p9 := hP.c9; have p10 := hP.c10; rw [HK.out] at p0; clear hC hP; go_simp; rfl
     apply ord_norm
     · go_simp; rfl)
  iterate 3
    (apply ord_pure (ho := rfl)
     · go_simp
     · intro x hx; obtain ⟨hC, hP⟩ := hx; have k0 := hC.k0; have k1 := hC.k1; have p0 := hP.c0; have p1 := hP.c1; have p2 := hP.c2; have p3 := hP.c3; have p4 := hP.c4; have p5 := hP.c5; have p6 := hP.c6; have p7 := hP.c7; have p8 := hP.c8; have p9 := hP.c9; have p10 := hP.c10; rw [HK.out] at p0; clear hC hP; go_simp; rfl
     apply ord_norm
     · go_simp; rfl)
  iterate 2
    (apply ord_pure (ho := rfl)
     · go_simp
     · intro x hx; obtain ⟨hC, hP⟩ := hx; have k0 := hC.k0; have k1 := hC.k1; have p0 := hP.c0; have p1 := hP.c1; have p2 := hP.c2; have p3 := hP.c3; have p4 := hP.c4; have p5 := hP.c5; have p6 := hP.c6; have p7 := hP.c7; have p8 := hP.c8; have p9 := hP.c9; have p10 := hP.c10; rw [HK.out] at p0; clear hC hP; go_simp; rfl
     apply ord_norm
     · go_simp; rfl)
  iterate 3
    (apply ord_skip (ho := rfl)
     · go_simp
       try (intro hu; cases hu)
     apply ord_norm
     · go_simp; rfl)
  iterate 2
    (apply ord_pure (ho := rfl)
     · go_simp
     · intro x hx; obtain ⟨hC, hP⟩ := hx; have k0 := hC.k0; have k1 := hC.k1; have p0 := hP.c0; have p1 := hP.c1; have p2 := hP.c2; have p3 := hP.c3; have p4 := hP.c4; have p5 := hP.c5; have p6 := hP.c6; have p7 := hP.c7; have p8 := hP.c8; have p9 := hP.c9; have p10 := hP.c10; rw [HK.out] at p0; clear hC hP; go_simp; rfl
     apply ord_norm
     · go_simp; rfl)
  refine ord_nil fun z hz => ?_
  have hC := Sts.refC hz.tail
  have k2 := hC.k2
  have k8 := hC.k8
  have k4 := hC.k4
  clear hC
  have p0 := (Sts.boxCell hz 0 _ rfl).1
  have p9 := (Sts.boxCell hz 9 _ rfl).1
  have p10 := (Sts.boxCell hz 10 _ rfl).1
  rw [HK.out] at p0
  rw [c1] at k8
  have HZ := hid ((Sts.shutRef hz.tail))
  clear hz HB
  go_wp2_with fail
  go_ret
  exact ⟨rfl, HZ.out⟩
set_option maxRecDepth 100000 in
set_option maxHeartbeats 4000000 in
theorem cRTakeFin3 (hv : p.validB = true) (i1 : (p.src == s1.src) = true) (i2 : (p.num == s1.num) = true) (hk : p.kind = 5) (hc : (s1.cls == 1) = false) (c1 : (s1.phase + 1 == 1) = false) (c2 : (s1.phase + 1 == 2) = false) (c3 : (s1.phase + 1 != 3) = true) : Calls Try.prog 72 #[.pointer (some ⟨q, 0, none⟩), .agg p.cells, .int .i64 now] w fun e w' => e = .returned (.int .i64 0) ∧ Sts W (refP zh q ({ s1 with due := true }) (.slice da s1.data.length dc) :: l) w' := by
  have HK := hid hk
  clear hk
  have HPC : p.cells = #[.int .i64 p.kind, .int .i64 p.src, .int .i64 p.num, .int .i64 p.cls, .string p.name, .int .i64 p.size, .int .i64 p.off, .slice p.da p.data.length p.dc, .int .u32 (p.sum : Nat), .int .i64 p.code, .slice p.ga p.gaps.length p.gc] := rfl
  rw [HPC]
  clear HPC
  rw [hdl] at hs
  have hls : ∀ B ∈ refP zh q s (.slice da s1.data.length dc) :: l, Stable B := stabC (refP_stable _ _ _ _) hl
  have hz : Sts W (blkP w.heap.size (.cells #[.int .i64 p.kind, .int .i64 p.src, .int .i64 p.num, .int .i64 p.cls, .string p.name, .int .i64 p.size, .int .i64 p.off, .slice p.da p.data.length p.dc, .int .u32 (p.sum : Nat), .int .i64 p.code, .slice p.ga p.gaps.length p.gc] 45 (0, 0)) :: refP zh q s (.slice da s1.data.length dc) :: l) (w.alloc (.cells #[.int .i64 p.kind, .int .i64 p.src, .int .i64 p.num, .int .i64 p.cls, .string p.name, .int .i64 p.size, .int .i64 p.off, .slice p.da p.data.length p.dc, .int .u32 (p.sum : Nat), .int .i64 p.code, .slice p.ga p.gaps.length p.gc] 45)) := hs.alloc hls (.cells #[.int .i64 p.kind, .int .i64 p.src, .int .i64 p.num, .int .i64 p.cls, .string p.name, .int .i64 p.size, .int .i64 p.off, .slice p.da p.data.length p.dc, .int .u32 (p.sum : Nat), .int .i64 p.code, .slice p.ga p.gaps.length p.gc] 45)
  have hbl : ∀ B ∈ blkP w.heap.size (.cells #[.int .i64 p.kind, .int .i64 p.src, .int .i64 p.num, .int .i64 p.cls, .string p.name, .int .i64 p.size, .int .i64 p.off, .slice p.da p.data.length p.dc, .int .u32 (p.sum : Nat), .int .i64 p.code, .slice p.ga p.gaps.length p.gc] 45 (0, 0)) :: l, Stable B := stabC (blkP_stable _ _) hl
  have hP := cClock hbl zh q s (.slice da s1.data.length dc) hz.swap now
  rw [hp1] at hP
  have HP := hid hP
  obtain ⟨wv0, h0⟩ := Sts.openRef hz.swap
  have k8 : (w.alloc (.cells #[.int .i64 p.kind, .int .i64 p.src, .int .i64 p.num, .int .i64 p.cls, .string p.name, .int .i64 p.size, .int .i64 p.off, .slice p.da p.data.length p.dc, .int .u32 (p.sum : Nat), .int .i64 p.code, .slice p.ga p.gaps.length p.gc] 45)).cell? ⟨q, 8, none⟩ = some (.int .i64 (s.phase + 1)) := (Sts.refC h0).k8
  have HL := hid hl
  have HBL := hid hbl
  have HG := hid hg
  clear hP h0 hz hs hl hbl hp1 hls hg hdl
  go_enter Try.func72, Try.ntmps72
  go_wp2_with (first | (go_at_call 109; refine HP.out.mono ?_; rintro e w1 ⟨rfl, h1⟩; obtain ⟨wv, h2⟩ := Sts.openRef h1; have HB := hid h2.third; clear h1 h2))
  have HLB : Hid (∀ B ∈ blkP w.heap.size (.cells #[.int .i64 p.kind, .int .i64 p.src, .int .i64 p.num, .int .i64 p.cls, .string p.name, .int .i64 p.size, .int .i64 p.off, .slice p.da p.data.length p.dc, .int .u32 (p.sum : Nat), .int .i64 p.code, .slice p.ga p.gaps.length p.gc] 45 (0, 0)) :: blkP q (.cells ((s1).rcs (.slice da s1.data.length dc) wv) 38 (0, 0)) :: ownW zh wv (s1).wanted :: l, Stable B) := hid (stabC (blkP_stable _ _) (stabC (blkP_stable _ _) (stabC (ownW_stable _ _ _) HL.out)))
  have hgb : ∀ y, Sts W (blkP w.heap.size (.cells #[.int .i64 p.kind, .int .i64 p.src, .int .i64 p.num, .int .i64 p.cls, .string p.name, .int .i64 p.size, .int .i64 p.off, .slice p.da p.data.length p.dc, .int .u32 (p.sum : Nat), .int .i64 p.code, .slice p.ga p.gaps.length p.gc] 45 (0, 0)) :: blkP q (.cells ((s1).rcs (.slice da s1.data.length dc) wv) 38 (0, 0)) :: ownW zh wv (s1).wanted :: l) y → RdR y (.slice p.ga p.gaps.length p.gc) p.gaps := fun y hy => HG.out _ y (Sts.shutRef hy.tail)
  refine wp_region_ord (.pure 0 (.eff 1 (.pure 2 (.pure 3 (.pure 4 (.pure 5 (.pure 6 (.pure 7 (.pure 8 (.pure 9 (.pure 10 (.pure 11 (.pure 12 (.pure 13 (.pure 14 (.pure 15 (.pure 16 (.pure 17 (.pure 18 (.pure 19 (.pure 20 (.pure 21 (.pure 22 (.pure 23 (.pure 24 (.pure 25 (.pure 26 .nil))))))))))))))))))))))))))) (fun y => RefC y q s1 (.slice da s1.data.length dc) wv ∧ PduC y w.heap.size p) (fun y => Sts W (blkP w.heap.size (.cells #[.int .i64 p.kind, .int .i64 p.src, .int .i64 p.num, .int .i64 p.cls, .string p.name, .int .i64 p.size, .int .i64 p.off, .slice p.da p.data.length p.dc, .int .u32 (p.sum : Nat), .int .i64 p.code, .slice p.ga p.gaps.length p.gc] 45 (0, 0)) :: blkP q (.cells ((s1).rcs (.slice da s1.data.length dc) wv) 38 (0, 0)) :: ownW zh wv (s1).wanted :: l) y) (by kernel_rfl) (by kernel_rfl) (HB.out.drew HLB.out) (fun y hy => ⟨Sts.refC hy.tail, ⟨(Sts.boxCell hy 0 _ rfl).1, (Sts.boxCell hy 1 _ rfl).1, (Sts.boxCell hy 2 _ rfl).1, (Sts.boxCell hy 3 _ rfl).1, (Sts.boxCell hy 4 _ rfl).1, (Sts.boxCell hy 5 _ rfl).1, (Sts.boxCell hy 6 _ rfl).1, (Sts.boxCell hy 7 _ rfl).1, (Sts.boxCell hy 8 _ rfl).1, (Sts.boxCell hy 9 _ rfl).1, (Sts.boxCell hy 10 _ rfl).1⟩⟩) ?_
  apply ord_pure (ho := rfl)
  · go_simp
  · intro x hx; obtain ⟨hC, hP⟩ := hx; have k0 := hC.k0; have k1 := hC.k1; have p0 := hP.c0; have p1 := hP.c1; have p2 := hP.c2; have p3 := hP.c3; have p4 := hP.c4; have p5 := hP.c5; have p6 := hP.c6; have p7 := hP.c7; have p8 := hP.c8; have p9 := hP.c9; have p10 := hP.c10; clear hC hP; go_simp; rfl
  apply ord_norm
  · go_simp; rfl
  apply ord_eff (ho := rfl)
  · go_simp
  intro y hy
  refine eff_call (f := 57) (by go_simp; rfl) (cRefValid y p hname hdata (by omega) (hgb y hy)) ?_
  rintro e w2 ⟨rfl, hb⟩
  refine ⟨_, rfl, (fun y => RefC y q s1 (.slice da s1.data.length dc) wv ∧ PduC y w.heap.size p), (fun y => Sts W (blkP w.heap.size (.cells #[.int .i64 p.kind, .int .i64 p.src, .int .i64 p.num, .int .i64 p.cls, .string p.name, .int .i64 p.size, .int .i64 p.off, .slice p.da p.data.length p.dc, .int .u32 (p.sum : Nat), .int .i64 p.code, .slice p.ga p.gaps.length p.gc] 45 (0, 0)) :: blkP q (.cells ((s1).rcs (.slice da s1.data.length dc) wv) 38 (0, 0)) :: ownW zh wv (s1).wanted :: l) y), hy.quiet HLB.out hb, (fun y hy => ⟨Sts.refC hy.tail, ⟨(Sts.boxCell hy 0 _ rfl).1, (Sts.boxCell hy 1 _ rfl).1, (Sts.boxCell hy 2 _ rfl).1, (Sts.boxCell hy 3 _ rfl).1, (Sts.boxCell hy 4 _ rfl).1, (Sts.boxCell hy 5 _ rfl).1, (Sts.boxCell hy 6 _ rfl).1, (Sts.boxCell hy 7 _ rfl).1, (Sts.boxCell hy 8 _ rfl).1, (Sts.boxCell hy 9 _ rfl).1, (Sts.boxCell hy 10 _ rfl).1⟩⟩), (fun _ h => h), ?_⟩
  rw [hv]
  clear hb hy y
  apply ord_norm
  · go_simp; rfl
  iterate 2
    (apply ord_pure (ho := rfl)
     · go_simp
     · intro x hx; obtain ⟨hC, hP⟩ := hx; have k0 := hC.k0; have k1 := hC.k1; have p0 := hP.c0; have p1 := hP.c1; have p2 := hP.c2; have p3 := hP.c3; have p4 := hP.c4; have p5 := hP.c5; have p6 := hP.c6; have p7 := hP.c7; have p8 := hP.c8; have p9 := hP.c9; have p10 := hP.c10; rw [HK.out] at p0; clear hC hP; go_simp; rfl
     apply ord_norm
     · go_simp; rfl)
  iterate 9
    (apply ord_pure (ho := rfl)
     · go_simp
     · intro x hx; obtain ⟨hC, hP⟩ := hx; have k0 := hC.k0; have k1 := hC.k1; have p0 := hP.c0; have p1 := hP.c1; have p2 := hP.c2; have p3 := hP.c3; have p4 := hP.c4; have p5 := hP.c5; have p6 := hP.c6; have p7 := hP.c7; have p8 := hP.c8; have p9 := hP.c9; have p10 := hP.c10; rw [HK.out] at p0; clear hC hP; go_simp; rfl
     apply ord_norm
     · go_simp; rfl)
  iterate 4
    (apply ord_pure (ho := rfl)
     · go_simp
     · intro x hx; obtain ⟨hC, hP⟩ := hx; have k0 := hC.k0; have k1 := hC.k1; have p0 := hP.c0; have p1 := hP.c1; have p2 := hP.c2; have p3 := hP.c3; have p4 := hP.c4; have p5 := hP.c5; have p6 := hP.c6; have p7 := hP.c7; have p8 := hP.c8; have p9 := hP.c9; have p10 := hP.c10; rw [HK.out] at p0; clear hC hP; go_simp; rfl
     apply ord_norm
     · go_simp; rfl)
  iterate 3
    (apply ord_pure (ho := rfl)
     · go_simp
     · intro x hx; obtain ⟨hC, hP⟩ := hx; have k0 := hC.k0; have k1 := hC.k1; have p0 := hP.c0; have p1 := hP.c1; have p2 := hP.c2; have p3 := hP.c3; have p4 := hP.c4; have p5 := hP.c5; have p6 := hP.c6; have p7 := hP.c7; have p8 := hP.c8; have p9 := hP.c9; have p10 := hP.c10; rw [HK.out] at p0; clear hC hP; go_simp; rfl
     apply ord_norm
     · go_simp; rfl)
  iterate 2
    (apply ord_pure (ho := rfl)
     · go_simp
     · intro x hx; obtain ⟨hC, hP⟩ := hx; have k0 := hC.k0; have k1 := hC.k1; have p0 := hP.c0; have p1 := hP.c1; have p2 := hP.c2; have p3 := hP.c3; have p4 := hP.c4; have p5 := hP.c5; have p6 := hP.c6; have p7 := hP.c7; have p8 := hP.c8; have p9 := hP.c9; have p10 := hP.c10; rw [HK.out] at p0; clear hC hP; go_simp; rfl
     apply ord_norm
     · go_simp; rfl)
  iterate 3
    (apply ord_skip (ho := rfl)
     · go_simp
       try (intro hu; cases hu)
     apply ord_norm
     · go_simp; rfl)
  iterate 2
    (apply ord_pure (ho := rfl)
     · go_simp
     · intro x hx; obtain ⟨hC, hP⟩ := hx; have k0 := hC.k0; have k1 := hC.k1; have p0 := hP.c0; have p1 := hP.c1; have p2 := hP.c2; have p3 := hP.c3; have p4 := hP.c4; have p5 := hP.c5; have p6 := hP.c6; have p7 := hP.c7; have p8 := hP.c8; have p9 := hP.c9; have p10 := hP.c10; rw [HK.out] at p0; clear hC hP; go_simp; rfl
     apply ord_norm
     · go_simp; rfl)
  refine ord_nil fun z hz => ?_
  have hC := Sts.refC hz.tail
  have k2 := hC.k2
  have k8 := hC.k8
  have k4 := hC.k4
  clear hC
  have p0 := (Sts.boxCell hz 0 _ rfl).1
  have p9 := (Sts.boxCell hz 9 _ rfl).1
  have p10 := (Sts.boxCell hz 10 _ rfl).1
  rw [HK.out] at p0
  have HQ := hid hz.swap
  clear hz HB
  go_wp2_with (first | (refine wpList_cell HQ.out (stabC (blkP_stable _ _) (stabC (ownW_stable _ _ _) HL.out)) rfl (.tmp 89) (.const (.bool true)) 4 rfl 17 (.bool true) rfl rfl szBool (show 17 < 20 by decide) rfl ?_; intro w3 hz; replace hz : Sts W (blkP q (.cells (({ s1 with due := true }).rcs (.slice da s1.data.length dc) wv) 38 (0, 0)) :: blkP w.heap.size (.cells #[.int .i64 p.kind, .int .i64 p.src, .int .i64 p.num, .int .i64 p.cls, .string p.name, .int .i64 p.size, .int .i64 p.off, .slice p.da p.data.length p.dc, .int .u32 (p.sum : Nat), .int .i64 p.code, .slice p.ga p.gaps.length p.gc] 45 (0, 0)) :: ownW zh wv (s1).wanted :: l) w3 := hz; have H3 := hid hz; clear hz))
  go_ret
  exact ⟨rfl, Sts.shutRef (s := { s1 with due := true }) (wv := wv) H3.out.swap.tail⟩
set_option maxRecDepth 100000 in
set_option maxHeartbeats 4000000 in
theorem cRTakeFinA (hv : p.validB = true) (i1 : (p.src == s1.src) = true) (i2 : (p.num == s1.num) = true) (hk : p.kind = 5) (hc : (s1.cls == 1) = false) (c1 : s1.phase = 0) : Calls Try.prog 72 #[.pointer (some ⟨q, 0, none⟩), .agg p.cells, .int .i64 now] w fun e w' => e = .returned (.int .i64 0) ∧ Sts W (refP zh q ({ s1 with phase := 2, code := p.code, mreq := false, wanted := [], due := true }) (.slice da s1.data.length dc) :: l) w' := by
  have HK := hid hk
  clear hk
  have HPC : p.cells = #[.int .i64 p.kind, .int .i64 p.src, .int .i64 p.num, .int .i64 p.cls, .string p.name, .int .i64 p.size, .int .i64 p.off, .slice p.da p.data.length p.dc, .int .u32 (p.sum : Nat), .int .i64 p.code, .slice p.ga p.gaps.length p.gc] := rfl
  rw [HPC]
  clear HPC
  rw [hdl] at hs
  have hls : ∀ B ∈ refP zh q s (.slice da s1.data.length dc) :: l, Stable B := stabC (refP_stable _ _ _ _) hl
  have hz : Sts W (blkP w.heap.size (.cells #[.int .i64 p.kind, .int .i64 p.src, .int .i64 p.num, .int .i64 p.cls, .string p.name, .int .i64 p.size, .int .i64 p.off, .slice p.da p.data.length p.dc, .int .u32 (p.sum : Nat), .int .i64 p.code, .slice p.ga p.gaps.length p.gc] 45 (0, 0)) :: refP zh q s (.slice da s1.data.length dc) :: l) (w.alloc (.cells #[.int .i64 p.kind, .int .i64 p.src, .int .i64 p.num, .int .i64 p.cls, .string p.name, .int .i64 p.size, .int .i64 p.off, .slice p.da p.data.length p.dc, .int .u32 (p.sum : Nat), .int .i64 p.code, .slice p.ga p.gaps.length p.gc] 45)) := hs.alloc hls (.cells #[.int .i64 p.kind, .int .i64 p.src, .int .i64 p.num, .int .i64 p.cls, .string p.name, .int .i64 p.size, .int .i64 p.off, .slice p.da p.data.length p.dc, .int .u32 (p.sum : Nat), .int .i64 p.code, .slice p.ga p.gaps.length p.gc] 45)
  have hbl : ∀ B ∈ blkP w.heap.size (.cells #[.int .i64 p.kind, .int .i64 p.src, .int .i64 p.num, .int .i64 p.cls, .string p.name, .int .i64 p.size, .int .i64 p.off, .slice p.da p.data.length p.dc, .int .u32 (p.sum : Nat), .int .i64 p.code, .slice p.ga p.gaps.length p.gc] 45 (0, 0)) :: l, Stable B := stabC (blkP_stable _ _) hl
  have hP := cClock hbl zh q s (.slice da s1.data.length dc) hz.swap now
  rw [hp1] at hP
  have HP := hid hP
  obtain ⟨wv0, h0⟩ := Sts.openRef hz.swap
  have k8 : (w.alloc (.cells #[.int .i64 p.kind, .int .i64 p.src, .int .i64 p.num, .int .i64 p.cls, .string p.name, .int .i64 p.size, .int .i64 p.off, .slice p.da p.data.length p.dc, .int .u32 (p.sum : Nat), .int .i64 p.code, .slice p.ga p.gaps.length p.gc] 45)).cell? ⟨q, 8, none⟩ = some (.int .i64 (s.phase + 1)) := (Sts.refC h0).k8
  have HL := hid hl
  have HBL := hid hbl
  have HG := hid hg
  clear hP h0 hz hs hl hbl hp1 hls hg hdl
  go_enter Try.func72, Try.ntmps72
  go_wp2_with (first | (go_at_call 109; refine HP.out.mono ?_; rintro e w1 ⟨rfl, h1⟩; obtain ⟨wv, h2⟩ := Sts.openRef h1; have HB := hid h2.third; clear h1 h2))
  have HLB : Hid (∀ B ∈ blkP w.heap.size (.cells #[.int .i64 p.kind, .int .i64 p.src, .int .i64 p.num, .int .i64 p.cls, .string p.name, .int .i64 p.size, .int .i64 p.off, .slice p.da p.data.length p.dc, .int .u32 (p.sum : Nat), .int .i64 p.code, .slice p.ga p.gaps.length p.gc] 45 (0, 0)) :: blkP q (.cells ((s1).rcs (.slice da s1.data.length dc) wv) 38 (0, 0)) :: ownW zh wv (s1).wanted :: l, Stable B) := hid (stabC (blkP_stable _ _) (stabC (blkP_stable _ _) (stabC (ownW_stable _ _ _) HL.out)))
  have hgb : ∀ y, Sts W (blkP w.heap.size (.cells #[.int .i64 p.kind, .int .i64 p.src, .int .i64 p.num, .int .i64 p.cls, .string p.name, .int .i64 p.size, .int .i64 p.off, .slice p.da p.data.length p.dc, .int .u32 (p.sum : Nat), .int .i64 p.code, .slice p.ga p.gaps.length p.gc] 45 (0, 0)) :: blkP q (.cells ((s1).rcs (.slice da s1.data.length dc) wv) 38 (0, 0)) :: ownW zh wv (s1).wanted :: l) y → RdR y (.slice p.ga p.gaps.length p.gc) p.gaps := fun y hy => HG.out _ y (Sts.shutRef hy.tail)
  refine wp_region_ord (.pure 0 (.eff 1 (.pure 2 (.pure 3 (.pure 4 (.pure 5 (.pure 6 (.pure 7 (.pure 8 (.pure 9 (.pure 10 (.pure 11 (.pure 12 (.pure 13 (.pure 14 (.pure 15 (.pure 16 (.pure 17 (.pure 18 (.pure 19 (.pure 20 (.pure 21 (.pure 22 (.pure 23 (.pure 24 (.pure 25 (.pure 26 .nil))))))))))))))))))))))))))) (fun y => RefC y q s1 (.slice da s1.data.length dc) wv ∧ PduC y w.heap.size p) (fun y => Sts W (blkP w.heap.size (.cells #[.int .i64 p.kind, .int .i64 p.src, .int .i64 p.num, .int .i64 p.cls, .string p.name, .int .i64 p.size, .int .i64 p.off, .slice p.da p.data.length p.dc, .int .u32 (p.sum : Nat), .int .i64 p.code, .slice p.ga p.gaps.length p.gc] 45 (0, 0)) :: blkP q (.cells ((s1).rcs (.slice da s1.data.length dc) wv) 38 (0, 0)) :: ownW zh wv (s1).wanted :: l) y) (by kernel_rfl) (by kernel_rfl) (HB.out.drew HLB.out) (fun y hy => ⟨Sts.refC hy.tail, ⟨(Sts.boxCell hy 0 _ rfl).1, (Sts.boxCell hy 1 _ rfl).1, (Sts.boxCell hy 2 _ rfl).1, (Sts.boxCell hy 3 _ rfl).1, (Sts.boxCell hy 4 _ rfl).1, (Sts.boxCell hy 5 _ rfl).1, (Sts.boxCell hy 6 _ rfl).1, (Sts.boxCell hy 7 _ rfl).1, (Sts.boxCell hy 8 _ rfl).1, (Sts.boxCell hy 9 _ rfl).1, (Sts.boxCell hy 10 _ rfl).1⟩⟩) ?_
  apply ord_pure (ho := rfl)
  · go_simp
  · intro x hx; obtain ⟨hC, hP⟩ := hx; have k0 := hC.k0; have k1 := hC.k1; have p0 := hP.c0; have p1 := hP.c1; have p2 := hP.c2; have p3 := hP.c3; have p4 := hP.c4; have p5 := hP.c5; have p6 := hP.c6; have p7 := hP.c7; have p8 := hP.c8; have p9 := hP.c9; have p10 := hP.c10; clear hC hP; go_simp; rfl
  apply ord_norm
  · go_simp; rfl
  apply ord_eff (ho := rfl)
  · go_simp
  intro y hy
  refine eff_call (f := 57) (by go_simp; rfl) (cRefValid y p hname hdata (by omega) (hgb y hy)) ?_
  rintro e w2 ⟨rfl, hb⟩
  refine ⟨_, rfl, (fun y => RefC y q s1 (.slice da s1.data.length dc) wv ∧ PduC y w.heap.size p), (fun y => Sts W (blkP w.heap.size (.cells #[.int .i64 p.kind, .int .i64 p.src, .int .i64 p.num, .int .i64 p.cls, .string p.name, .int .i64 p.size, .int .i64 p.off, .slice p.da p.data.length p.dc, .int .u32 (p.sum : Nat), .int .i64 p.code, .slice p.ga p.gaps.length p.gc] 45 (0, 0)) :: blkP q (.cells ((s1).rcs (.slice da s1.data.length dc) wv) 38 (0, 0)) :: ownW zh wv (s1).wanted :: l) y), hy.quiet HLB.out hb, (fun y hy => ⟨Sts.refC hy.tail, ⟨(Sts.boxCell hy 0 _ rfl).1, (Sts.boxCell hy 1 _ rfl).1, (Sts.boxCell hy 2 _ rfl).1, (Sts.boxCell hy 3 _ rfl).1, (Sts.boxCell hy 4 _ rfl).1, (Sts.boxCell hy 5 _ rfl).1, (Sts.boxCell hy 6 _ rfl).1, (Sts.boxCell hy 7 _ rfl).1, (Sts.boxCell hy 8 _ rfl).1, (Sts.boxCell hy 9 _ rfl).1, (Sts.boxCell hy 10 _ rfl).1⟩⟩), (fun _ h => h), ?_⟩
  rw [hv]
  clear hb hy y
  apply ord_norm
  · go_simp; rfl
  iterate 2
    (apply ord_pure (ho := rfl)
     · go_simp
     · intro x hx; obtain ⟨hC, hP⟩ := hx; have k0 := hC.k0; have k1 := hC.k1; have p0 := hP.c0; have p1 := hP.c1; have p2 := hP.c2; have p3 := hP.c3; have p4 := hP.c4; have p5 := hP.c5; have p6 := hP.c6; have p7 := hP.c7; have p8 := hP.c8; have p9 := hP.c9; have p10 := hP.c10; rw [HK.out] at p0; clear hC hP; go_simp; rfl
     apply ord_norm
     · go_simp; rfl)
  iterate 9
    (apply ord_pure (ho := rfl)
     · go_simp
     · intro x hx; obtain ⟨hC, hP⟩ := hx; have k0 := hC.k0; have k1 := hC.k1; have p0 := hP.c0; have p1 := hP.c1; have p2 := hP.c2; have p3 := hP.c3; have p4 := hP.c4; have p5 := hP.c5; have p6 := hP.c6; have p7 := hP.c7; have p8 := hP.c8; have p9 := hP.c9; have p10 := hP.c10; rw [HK.out] at p0; clear hC hP; go_simp; rfl
     apply ord_norm
     · go_simp; rfl)
  iterate 4
    (apply ord_pure (ho := rfl)
     · go_simp
     · intro x hx; obtain ⟨hC, hP⟩ := hx; have k0 := hC.k0; have k1 := hC.k1; have p0 := hP.c0; have p1 := hP.c1; have p2 := hP.c2; have p3 := hP.c3; have p4 := hP.c4; have p5 := hP.c5; have p6 := hP.c6; have p7 := hP.c7; have p8 := hP.c8; have p9 := hP.c9; have p10 := hP.c10; rw [HK.out] at p0; clear hC hP; go_simp; rfl
     apply ord_norm
     · go_simp; rfl)
  iterate 3
    (apply ord_pure (ho := rfl)
     · go_simp
     · intro x hx; obtain ⟨hC, hP⟩ := hx; have k0 := hC.k0; have k1 := hC.k1; have p0 := hP.c0; have p1 := hP.c1; have p2 := hP.c2; have p3 := hP.c3; have p4 := hP.c4; have p5 := hP.c5; have p6 := hP.c6; have p7 := hP.c7; have p8 := hP.c8; have p9 := hP.c9; have p10 := hP.c10; rw [HK.out] at p0; clear hC hP; go_simp; rfl
     apply ord_norm
     · go_simp; rfl)
  iterate 2
    (apply ord_pure (ho := rfl)
     · go_simp
     · intro x hx; obtain ⟨hC, hP⟩ := hx; have k0 := hC.k0; have k1 := hC.k1; have p0 := hP.c0; have p1 := hP.c1; have p2 := hP.c2; have p3 := hP.c3; have p4 := hP.c4; have p5 := hP.c5; have p6 := hP.c6; have p7 := hP.c7; have p8 := hP.c8; have p9 := hP.c9; have p10 := hP.c10; rw [HK.out] at p0; clear hC hP; go_simp; rfl
     apply ord_norm
     · go_simp; rfl)
  iterate 3
    (apply ord_skip (ho := rfl)
     · go_simp
       try (intro hu; cases hu)
     apply ord_norm
     · go_simp; rfl)
  iterate 2
    (apply ord_pure (ho := rfl)
     · go_simp
     · intro x hx; obtain ⟨hC, hP⟩ := hx; have k0 := hC.k0; have k1 := hC.k1; have p0 := hP.c0; have p1 := hP.c1; have p2 := hP.c2; have p3 := hP.c3; have p4 := hP.c4; have p5 := hP.c5; have p6 := hP.c6; have p7 := hP.c7; have p8 := hP.c8; have p9 := hP.c9; have p10 := hP.c10; rw [HK.out] at p0; clear hC hP; go_simp; rfl
     apply ord_norm
     · go_simp; rfl)
  refine ord_nil fun z hz => ?_
  have hC := Sts.refC hz.tail
  have k2 := hC.k2
  have k8 := hC.k8
  have k4 := hC.k4
  clear hC
  have p0 := (Sts.boxCell hz 0 _ rfl).1
  have p9 := (Sts.boxCell hz 9 _ rfl).1
  have p10 := (Sts.boxCell hz 10 _ rfl).1
  rw [HK.out] at p0
  rw [c1] at k8
  clear c1
  have HQ := hid hz.swap
  clear hz HB
  go_wp2_with (first | (refine wpList_cell HQ.out (stabC (blkP_stable _ _) (stabC (ownW_stable _ _ _) HL.out)) rfl (.tmp 67) (.const (.int .i64 3)) 3 rfl 8 (.int .i64 3) rfl rfl szInt (show 8 < 20 by decide) rfl ?_; intro w3 hz; replace hz : Sts W (blkP q (.cells (({ s1 with phase := 2 }).rcs (.slice da s1.data.length dc) wv) 38 (0, 0)) :: blkP w.heap.size (.cells #[.int .i64 p.kind, .int .i64 p.src, .int .i64 p.num, .int .i64 p.cls, .string p.name, .int .i64 p.size, .int .i64 p.off, .slice p.da p.data.length p.dc, .int .u32 (p.sum : Nat), .int .i64 p.code, .slice p.ga p.gaps.length p.gc] 45 (0, 0)) :: ownW zh wv (s1).wanted :: l) w3 := hz; (try clear p9); have p9 := (Sts.boxCell hz.tail 9 _ rfl).1; have H0 := hid hz; clear hz) | (refine wpList_cell H0.out (stabC (blkP_stable _ _) (stabC (ownW_stable _ _ _) HL.out)) rfl (.tmp 72) (.tmp 70) 33 rfl 19 (.int .i64 p.code) rfl rfl szErr (show 19 < 20 by decide) rfl ?_; intro w4 hz; replace hz : Sts W (blkP q (.cells (({ s1 with phase := 2, code := p.code }).rcs (.slice da s1.data.length dc) wv) 38 (0, 0)) :: blkP w.heap.size (.cells #[.int .i64 p.kind, .int .i64 p.src, .int .i64 p.num, .int .i64 p.cls, .string p.name, .int .i64 p.size, .int .i64 p.off, .slice p.da p.data.length p.dc, .int .u32 (p.sum : Nat), .int .i64 p.code, .slice p.ga p.gaps.length p.gc] 45 (0, 0)) :: ownW zh wv (s1).wanted :: l) w4 := hz; have H1 := hid hz; clear hz) | (refine wpList_cell H1.out (stabC (blkP_stable _ _) (stabC (ownW_stable _ _ _) HL.out)) rfl (.tmp 75) (.const (.bool false)) 4 rfl 15 (.bool false) rfl rfl szBool (show 15 < 20 by decide) rfl ?_; intro w5 hz; replace hz : Sts W (blkP q (.cells (({ s1 with phase := 2, code := p.code, mreq := false }).rcs (.slice da s1.data.length dc) wv) 38 (0, 0)) :: blkP w.heap.size (.cells #[.int .i64 p.kind, .int .i64 p.src, .int .i64 p.num, .int .i64 p.cls, .string p.name, .int .i64 p.size, .int .i64 p.off, .slice p.da p.data.length p.dc, .int .u32 (p.sum : Nat), .int .i64 p.code, .slice p.ga p.gaps.length p.gc] 45 (0, 0)) :: ownW zh wv (s1).wanted :: l) w5 := hz; have H2 := hid hz; clear hz) | (refine wpList_cell H2.out (stabC (blkP_stable _ _) (stabC (ownW_stable _ _ _) HL.out)) rfl (.tmp 78) (.const (.slice none 0 0)) 36 rfl 18 (.slice none 0 0) rfl rfl szRng (show 18 < 20 by decide) rfl ?_; intro w6 hz; replace hz : Sts W (blkP q (.cells (({ s1 with phase := 2, code := p.code, mreq := false }).rcs (.slice da s1.data.length dc) (.slice none 0 0)) 38 (0, 0)) :: blkP w.heap.size (.cells #[.int .i64 p.kind, .int .i64 p.src, .int .i64 p.num, .int .i64 p.cls, .string p.name, .int .i64 p.size, .int .i64 p.off, .slice p.da p.data.length p.dc, .int .u32 (p.sum : Nat), .int .i64 p.code, .slice p.ga p.gaps.length p.gc] 45 (0, 0)) :: ownW zh wv (s1).wanted :: l) w6 := hz; have H3 := hid hz; clear hz) | (refine wpList_cell H3.out (stabC (blkP_stable _ _) (stabC (ownW_stable _ _ _) HL.out)) rfl (.tmp 81) (.const (.bool true)) 4 rfl 17 (.bool true) rfl rfl szBool (show 17 < 20 by decide) rfl ?_; intro w7 hz; replace hz : Sts W (blkP q (.cells (({ s1 with phase := 2, code := p.code, mreq := false, due := true }).rcs (.slice da s1.data.length dc) (.slice none 0 0)) 38 (0, 0)) :: blkP w.heap.size (.cells #[.int .i64 p.kind, .int .i64 p.src, .int .i64 p.num, .int .i64 p.cls, .string p.name, .int .i64 p.size, .int .i64 p.off, .slice p.da p.data.length p.dc, .int .u32 (p.sum : Nat), .int .i64 p.code, .slice p.ga p.gaps.length p.gc] 45 (0, 0)) :: ownW zh wv (s1).wanted :: l) w7 := hz; have H4 := hid hz; clear hz))
  go_ret
  exact ⟨rfl, Sts.shutRef (s := { s1 with phase := 2, code := p.code, mreq := false, wanted := [], due := true }) (wv := .slice none 0 0) ((Sts.rowNilK 81 2 H4.out.swap.tail.swap.tail).weaken (B := ownW zh (.slice none 0 0) []) (fun F h => Or.inr h)).swap⟩
set_option maxRecDepth 100000 in
set_option maxHeartbeats 4000000 in
theorem cRTakeFinB (hv : p.validB = true) (i1 : (p.src == s1.src) = true) (i2 : (p.num == s1.num) = true) (hk : p.kind = 5) (hc : (s1.cls == 1) = false) (c1 : s1.phase = 1) : Calls Try.prog 72 #[.pointer (some ⟨q, 0, none⟩), .agg p.cells, .int .i64 now] w fun e w' => e = .returned (.int .i64 0) ∧ Sts W (refP zh q ({ s1 with phase := 2, code := p.code, mreq := false, wanted := [], due := true }) (.slice da s1.data.length dc) :: l) w' := by
  have HK := hid hk
  clear hk
  have HPC : p.cells = #[.int .i64 p.kind, .int .i64 p.src, .int .i64 p.num, .int .i64 p.cls, .string p.name, .int .i64 p.size, .int .i64 p.off, .slice p.da p.data.length p.dc, .int .u32 (p.sum : Nat), .int .i64 p.code, .slice p.ga p.gaps.length p.gc] := rfl
  rw [HPC]
  clear HPC
  rw [hdl] at hs
  have hls : ∀ B ∈ refP zh q s (.slice da s1.data.length dc) :: l, Stable B := stabC (refP_stable _ _ _ _) hl
  have hz : Sts W (blkP w.heap.size (.cells #[.int .i64 p.kind, .int .i64 p.src, .int .i64 p.num, .int .i64 p.cls, .string p.name, .int .i64 p.size, .int .i64 p.off, .slice p.da p.data.length p.dc, .int .u32 (p.sum : Nat), .int .i64 p.code, .slice p.ga p.gaps.length p.gc] 45 (0, 0)) :: refP zh q s (.slice da s1.data.length dc) :: l) (w.alloc (.cells #[.int .i64 p.kind, .int .i64 p.src, .int .i64 p.num, .int .i64 p.cls, .string p.name, .int .i64 p.size, .int .i64 p.off, .slice p.da p.data.length p.dc, .int .u32 (p.sum : Nat), .int .i64 p.code, .slice p.ga p.gaps.length p.gc] 45)) := hs.alloc hls (.cells #[.int .i64 p.kind, .int .i64 p.src, .int .i64 p.num, .int .i64 p.cls, .string p.name, .int .i64 p.size, .int .i64 p.off, .slice p.da p.data.length p.dc, .int .u32 (p.sum : Nat), .int .i64 p.code, .slice p.ga p.gaps.length p.gc] 45)
  have hbl : ∀ B ∈ blkP w.heap.size (.cells #[.int .i64 p.kind, .int .i64 p.src, .int .i64 p.num, .int .i64 p.cls, .string p.name, .int .i64 p.size, .int .i64 p.off, .slice p.da p.data.length p.dc, .int .u32 (p.sum : Nat), .int .i64 p.code, .slice p.ga p.gaps.length p.gc] 45 (0, 0)) :: l, Stable B := stabC (blkP_stable _ _) hl
  have hP := cClock hbl zh q s (.slice da s1.data.length dc) hz.swap now
  rw [hp1] at hP
  have HP := hid hP
  obtain ⟨wv0, h0⟩ := Sts.openRef hz.swap
  have k8 : (w.alloc (.cells #[.int .i64 p.kind, .int .i64 p.src, .int .i64 p.num, .int .i64 p.cls, .string p.name, .int .i64 p.size, .int .i64 p.off, .slice p.da p.data.length p.dc, .int .u32 (p.sum : Nat), .int .i64 p.code, .slice p.ga p.gaps.length p.gc] 45)).cell? ⟨q, 8, none⟩ = some (.int .i64 (s.phase + 1)) := (Sts.refC h0).k8
  have HL := hid hl
  have HBL := hid hbl
  have HG := hid hg
  clear hP h0 hz hs hl hbl hp1 hls hg hdl
  go_enter Try.func72, Try.ntmps72
  go_wp2_with (first | (go_at_call 109; refine HP.out.mono ?_; rintro e w1 ⟨rfl, h1⟩; obtain ⟨wv, h2⟩ := Sts.openRef h1; have HB := hid h2.third; clear h1 h2))
  have HLB : Hid (∀ B ∈ blkP w.heap.size (.cells #[.int .i64 p.kind, .int .i64 p.src, .int .i64 p.num, .int .i64 p.cls, .string p.name, .int .i64 p.size, .int .i64 p.off, .slice p.da p.data.length p.dc, .int .u32 (p.sum : Nat), .int .i64 p.code, .slice p.ga p.gaps.length p.gc] 45 (0, 0)) :: blkP q (.cells ((s1).rcs (.slice da s1.data.length dc) wv) 38 (0, 0)) :: ownW zh wv (s1).wanted :: l, Stable B) := hid (stabC (blkP_stable _ _) (stabC (blkP_stable _ _) (stabC (ownW_stable _ _ _) HL.out)))
  have hgb : ∀ y, Sts W (blkP w.heap.size (.cells #[.int .i64 p.kind, .int .i64 p.src, .int .i64 p.num, .int .i64 p.cls, .string p.name, .int .i64 p.size, .int .i64 p.off, .slice p.da p.data.length p.dc, .int .u32 (p.sum : Nat), .int .i64 p.code, .slice p.ga p.gaps.length p.gc] 45 (0, 0)) :: blkP q (.cells ((s1).rcs (.slice da s1.data.length dc) wv) 38 (0, 0)) :: ownW zh wv (s1).wanted :: l) y → RdR y (.slice p.ga p.gaps.length p.gc) p.gaps := fun y hy => HG.out _ y (Sts.shutRef hy.tail)
  refine wp_region_ord (.pure 0 (.eff 1 (.pure 2 (.pure 3 (.pure 4 (.pure 5 (.pure 6 (.pure 7 (.pure 8 (.pure 9 (.pure 10 (.pure 11 (.pure 12 (.pure 13 (.pure 14 (.pure 15 (.pure 16 (.pure 17 (.pure 18 (.pure 19 (.pure 20 (.pure 21 (.pure 22 (.pure 23 (.pure 24 (.pure 25 (.pure 26 .nil))))))))))))))))))))))))))) (fun y => RefC y q s1 (.slice da s1.data.length dc) wv ∧ PduC y w.heap.size p) (fun y => Sts W (blkP w.heap.size (.cells #[.int .i64 p.kind, .int .i64 p.src, .int .i64 p.num, .int .i64 p.cls, .string p.name, .int .i64 p.size, .int .i64 p.off, .slice p.da p.data.length p.dc, .int .u32 (p.sum : Nat), .int .i64 p.code, .slice p.ga p.gaps.length p.gc] 45 (0, 0)) :: blkP q (.cells ((s1).rcs (.slice da s1.data.length dc) wv) 38 (0, 0)) :: ownW zh wv (s1).wanted :: l) y) (by kernel_rfl) (by kernel_rfl) (HB.out.drew HLB.out) (fun y hy => ⟨Sts.refC hy.tail, ⟨(Sts.boxCell hy 0 _ rfl).1, (Sts.boxCell hy 1 _ rfl).1, (Sts.boxCell hy 2 _ rfl).1, (Sts.boxCell hy 3 _ rfl).1, (Sts.boxCell hy 4 _ rfl).1, (Sts.boxCell hy 5 _ rfl).1, (Sts.boxCell hy 6 _ rfl).1, (Sts.boxCell hy 7 _ rfl).1, (Sts.boxCell hy 8 _ rfl).1, (Sts.boxCell hy 9 _ rfl).1, (Sts.boxCell hy 10 _ rfl).1⟩⟩) ?_
  apply ord_pure (ho := rfl)
  · go_simp
  · intro x hx; obtain ⟨hC, hP⟩ := hx; have k0 := hC.k0; have k1 := hC.k1; have p0 := hP.c0; have p1 := hP.c1; have p2 := hP.c2; have p3 := hP.c3; have p4 := hP.c4; have p5 := hP.c5; have p6 := hP.c6; have p7 := hP.c7; have p8 := hP.c8; have p9 := hP.c9; have p10 := hP.c10; clear hC hP; go_simp; rfl
  apply ord_norm
  · go_simp; rfl
  apply ord_eff (ho := rfl)
  · go_simp
  intro y hy
  refine eff_call (f := 57) (by go_simp; rfl) (cRefValid y p hname hdata (by omega) (hgb y hy)) ?_
  rintro e w2 ⟨rfl, hb⟩
  refine ⟨_, rfl, (fun y => RefC y q s1 (.slice da s1.data.length dc) wv ∧ PduC y w.heap.size p), (fun y => Sts W (blkP w.heap.size (.cells #[.int .i64 p.kind, .int .i64 p.src, .int .i64 p.num, .int .i64 p.cls, .string p.name, .int .i64 p.size, .int .i64 p.off, .slice p.da p.data.length p.dc, .int .u32 (p.sum : Nat), .int .i64 p.code, .slice p.ga p.gaps.length p.gc] 45 (0, 0)) :: blkP q (.cells ((s1).rcs (.slice da s1.data.length dc) wv) 38 (0, 0)) :: ownW zh wv (s1).wanted :: l) y), hy.quiet HLB.out hb, (fun y hy => ⟨Sts.refC hy.tail, ⟨(Sts.boxCell hy 0 _ rfl).1, (Sts.boxCell hy 1 _ rfl).1, (Sts.boxCell hy 2 _ rfl).1, (Sts.boxCell hy 3 _ rfl).1, (Sts.boxCell hy 4 _ rfl).1, (Sts.boxCell hy 5 _ rfl).1, (Sts.boxCell hy 6 _ rfl).1, (Sts.boxCell hy 7 _ rfl).1, (Sts.boxCell hy 8 _ rfl).1, (Sts.boxCell hy 9 _ rfl).1, (Sts.boxCell hy 10 _ rfl).1⟩⟩), (fun _ h => h), ?_⟩
  rw [hv]
  clear hb hy y
  apply ord_norm
  · go_simp; rfl
  iterate 2
    (apply ord_pure (ho := rfl)
     · go_simp
     · intro x hx; obtain ⟨hC, hP⟩ := hx; have k0 := hC.k0; have k1 := hC.k1; have p0 := hP.c0; have p1 := hP.c1; have p2 := hP.c2; have p3 := hP.c3; have p4 := hP.c4; have p5 := hP.c5; have p6 := hP.c6; have p7 := hP.c7; have p8 := hP.c8; have p9 := hP.c9; have p10 := hP.c10; rw [HK.out] at p0; clear hC hP; go_simp; rfl
     apply ord_norm
     · go_simp; rfl)
  iterate 9
    (apply ord_pure (ho := rfl)
     · go_simp
     · intro x hx; obtain ⟨hC, hP⟩ := hx; have k0 := hC.k0; have k1 := hC.k1; have p0 := hP.c0; have p1 := hP.c1; have p2 := hP.c2; have p3 := hP.c3; have p4 := hP.c4; have p5 := hP.c5; have p6 := hP.c6; have p7 := hP.c7; have p8 := hP.c8; have p9 := hP.c9; have p10 := hP.c10; rw [HK.out] at p0; clear hC hP; go_simp; rfl
     apply ord_norm
     · go_simp; rfl)
  iterate 4
    (apply ord_pure (ho := rfl)
     · go_simp
     · intro x hx; obtain ⟨hC, hP⟩ := hx; have k0 := hC.k0; have k1 := hC.k1; have p0 := hP.c0; have p1 := hP.c1; have p2 := hP.c2; have p3 := hP.c3; have p4 := hP.c4; have p5 := hP.c5; have p6 := hP.c6; have p7 := hP.c7; have p8 := hP.c8; have p9 := hP.c9; have p10 := hP.c10; rw [HK.out] at p0; clear hC hP; go_simp; rfl
     apply ord_norm
     · go_simp; rfl)
  iterate 3
    (apply ord_pure (ho := rfl)
     · go_simp
     · intro x hx; obtain ⟨hC, hP⟩ := hx; have k0 := hC.k0; have k1 := hC.k1; have p0 := hP.c0; have p1 := hP.c1; have p2 := hP.c2; have p3 := hP.c3; have p4 := hP.c4; have p5 := hP.c5; have p6 := hP.c6; have p7 := hP.c7; have p8 := hP.c8; have p9 := hP.c9; have p10 := hP.c10; rw [HK.out] at p0; clear hC hP; go_simp; rfl
     apply ord_norm
     · go_simp; rfl)
  iterate 2
    (apply ord_pure (ho := rfl)
     · go_simp
     · intro x hx; obtain ⟨hC, hP⟩ := hx; have k0 := hC.k0; have k1 := hC.k1; have p0 := hP.c0; have p1 := hP.c1; have p2 := hP.c2; have p3 := hP.c3; have p4 := hP.c4; have p5 := hP.c5; have p6 := hP.c6; have p7 := hP.c7; have p8 := hP.c8; have p9 := hP.c9; have p10 := hP.c10; rw [HK.out] at p0; clear hC hP; go_simp; rfl
     apply ord_norm
     · go_simp; rfl)
  iterate 3
    (apply ord_skip (ho := rfl)
     · go_simp
       try (intro hu; cases hu)
     apply ord_norm
     · go_simp; rfl)
  iterate 2
    (apply ord_pure (ho := rfl)
     · go_simp
     · intro x hx; obtain ⟨hC, hP⟩ := hx; have k0 := hC.k0; have k1 := hC.k1; have p0 := hP.c0; have p1 := hP.c1; have p2 := hP.c2; have p3 := hP.c3; have p4 := hP.c4; have p5 := hP.c5; have p6 := hP.c6; have p7 := hP.c7; have p8 := hP.c8; have p9 := hP.c9; have p10 := hP.c10; rw [HK.out] at p0; clear hC hP; go_simp; rfl
     apply ord_norm
     · go_simp; rfl)
  refine ord_nil fun z hz => ?_
  have hC := Sts.refC hz.tail
  have k2 := hC.k2
  have k8 := hC.k8
  have k4 := hC.k4
  clear hC
  have p0 := (Sts.boxCell hz 0 _ rfl).1
  have p9 := (Sts.boxCell hz 9 _ rfl).1
  have p10 := (Sts.boxCell hz 10 _ rfl).1
  rw [HK.out] at p0
  rw [c1] at k8
  clear c1
  have HQ := hid hz.swap
  clear hz HB
  go_wp2_with (first | (refine wpList_cell HQ.out (stabC (blkP_stable _ _) (stabC (ownW_stable _ _ _) HL.out)) rfl (.tmp 67) (.const (.int .i64 3)) 3 rfl 8 (.int .i64 3) rfl rfl szInt (show 8 < 20 by decide) rfl ?_; intro w3 hz; replace hz : Sts W (blkP q (.cells (({ s1 with phase := 2 }).rcs (.slice da s1.data.length dc) wv) 38 (0, 0)) :: blkP w.heap.size (.cells #[.int .i64 p.kind, .int .i64 p.src, .int .i64 p.num, .int .i64 p.cls, .string p.name, .int .i64 p.size, .int .i64 p.off, .slice p.da p.data.length p.dc, .int .u32 (p.sum : Nat), .int .i64 p.code, .slice p.ga p.gaps.length p.gc] 45 (0, 0)) :: ownW zh wv (s1).wanted :: l) w3 := hz; (try clear p9); have p9 := (Sts.boxCell hz.tail 9 _ rfl).1; have H0 := hid hz; clear hz) | (refine wpList_cell H0.out (stabC (blkP_stable _ _) (stabC (ownW_stable _ _ _) HL.out)) rfl (.tmp 72) (.tmp 70) 33 rfl 19 (.int .i64 p.code) rfl rfl szErr (show 19 < 20 by decide) rfl ?_; intro w4 hz; replace hz : Sts W (blkP q (.cells (({ s1 with phase := 2, code := p.code }).rcs (.slice da s1.data.length dc) wv) 38 (0, 0)) :: blkP w.heap.size (.cells #[.int .i64 p.kind, .int .i64 p.src, .int .i64 p.num, .int .i64 p.cls, .string p.name, .int .i64 p.size, .int .i64 p.off, .slice p.da p.data.length p.dc, .int .u32 (p.sum : Nat), .int .i64 p.code, .slice p.ga p.gaps.length p.gc] 45 (0, 0)) :: ownW zh wv (s1).wanted :: l) w4 := hz; have H1 := hid hz; clear hz) | (refine wpList_cell H1.out (stabC (blkP_stable _ _) (stabC (ownW_stable _ _ _) HL.out)) rfl (.tmp 75) (.const (.bool false)) 4 rfl 15 (.bool false) rfl rfl szBool (show 15 < 20 by decide) rfl ?_; intro w5 hz; replace hz : Sts W (blkP q (.cells (({ s1 with phase := 2, code := p.code, mreq := false }).rcs (.slice da s1.data.length dc) wv) 38 (0, 0)) :: blkP w.heap.size (.cells #[.int .i64 p.kind, .int .i64 p.src, .int .i64 p.num, .int .i64 p.cls, .string p.name, .int .i64 p.size, .int .i64 p.off, .slice p.da p.data.length p.dc, .int .u32 (p.sum : Nat), .int .i64 p.code, .slice p.ga p.gaps.length p.gc] 45 (0, 0)) :: ownW zh wv (s1).wanted :: l) w5 := hz; have H2 := hid hz; clear hz) | (refine wpList_cell H2.out (stabC (blkP_stable _ _) (stabC (ownW_stable _ _ _) HL.out)) rfl (.tmp 78) (.const (.slice none 0 0)) 36 rfl 18 (.slice none 0 0) rfl rfl szRng (show 18 < 20 by decide) rfl ?_; intro w6 hz; replace hz : Sts W (blkP q (.cells (({ s1 with phase := 2, code := p.code, mreq := false }).rcs (.slice da s1.data.length dc) (.slice none 0 0)) 38 (0, 0)) :: blkP w.heap.size (.cells #[.int .i64 p.kind, .int .i64 p.src, .int .i64 p.num, .int .i64 p.cls, .string p.name, .int .i64 p.size, .int .i64 p.off, .slice p.da p.data.length p.dc, .int .u32 (p.sum : Nat), .int .i64 p.code, .slice p.ga p.gaps.length p.gc] 45 (0, 0)) :: ownW zh wv (s1).wanted :: l) w6 := hz; have H3 := hid hz; clear hz) | (refine wpList_cell H3.out (stabC (blkP_stable _ _) (stabC (ownW_stable _ _ _) HL.out)) rfl (.tmp 81) (.const (.bool true)) 4 rfl 17 (.bool true) rfl rfl szBool (show 17 < 20 by decide) rfl ?_; intro w7 hz; replace hz : Sts W (blkP q (.cells (({ s1 with phase := 2, code := p.code, mreq := false, due := true }).rcs (.slice da s1.data.length dc) (.slice none 0 0)) 38 (0, 0)) :: blkP w.heap.size (.cells #[.int .i64 p.kind, .int .i64 p.src, .int .i64 p.num, .int .i64 p.cls, .string p.name, .int .i64 p.size, .int .i64 p.off, .slice p.da p.data.length p.dc, .int .u32 (p.sum : Nat), .int .i64 p.code, .slice p.ga p.gaps.length p.gc] 45 (0, 0)) :: ownW zh wv (s1).wanted :: l) w7 := hz; have H4 := hid hz; clear hz))
  go_ret
  exact ⟨rfl, Sts.shutRef (s := { s1 with phase := 2, code := p.code, mreq := false, wanted := [], due := true }) (wv := .slice none 0 0) ((Sts.rowNilK 81 2 H4.out.swap.tail.swap.tail).weaken (B := ownW zh (.slice none 0 0) []) (fun F h => Or.inr h)).swap⟩
end
end Go.Proofs.Ytfjadhkhmhnccaa
