/- The specification's Take, but for the requests. The specification's Take, requests that are granted. -/
import Derived.Test.YtfjadhkhmhnccaaRefVal
import Derived.Test.YtfjadhkhmhnccaaRefNxC
import Derived.Test.YtfjadhkhmhnccaaSrcTke
set_option linter.unusedVariables false
set_option linter.unusedSimpArgs false
namespace Go.Proofs.Ytfjadhkhmhnccaa
open Go.RowKit Go.Proofs.Num
section
variable {W w : World} {l : List HProp} (hl : ∀ B ∈ l, Stable B) (zh : Value × List Rng.R) (q : Nat) (s s1 : Fil.Src) (da : Option Addr) (dc : Nat) (hs : Sts W (refP zh q s (.slice da s.data.length dc) :: l) w) (now : Int) (hp1 : s.pass now = s1) (hz0 : (s.phase + 1 == 0) = false) (hdl : s.data.length = s1.data.length) (p : Fil.Pdu) (hname : p.name.size ≤ 1000000) (hdata : p.data.length < 1000000000) (hgl : p.gaps.length < 1000) (hg : ∀ A y, Sts W (A :: l) y → RdR y (.slice p.ga p.gaps.length p.gc) p.gaps)
include hl hs hp1 hz0 hdl hname hdata hgl hg
set_option maxRecDepth 100000 in
set_option maxHeartbeats 4000000 in
theorem cRTakeBad (hv : p.validB = false) : Calls Try.prog 72 #[.pointer (some ⟨q, 0, none⟩), .agg p.cells, .int .i64 now] w fun e w' => e = .returned (.int .i64 1) ∧ Sts W (refP zh q (s1) (.slice da s1.data.length dc) :: l) w' := by
  have HPC : p.cells = #[.int .i64 p.kind, .int .i64 p.src, .int .i64 p.num, .int .i64 p.cls, .string p.name, .int .i64 p.size, .int .i64 p.off, .slice p.da p.data.length p.dc, .int .u32 (p.sum : Nat), .int .i64 p.code, .slice p.ga p.gaps.length p.gc] := rfl
  rw [HPC]
  clear HPC
  rw [hdl] at hs
  have hls : ∀ B ∈ refP zh q s (.slice da s1.data.length dc) :: l, Stable B := stabC (refP_stable _ _ _ _) hl
  have hz : Sts W (blkP w.heap.size (.cells #[.int .i64 p.kind, .int .i64 p.src, .int .i64 p.num, .int .i64 p.cls, .string p.name, .int .i64 p.size, .int .i64 p.off, .slice p.da p.data.length p.dc, .int .u32 (p.sum : Nat), .int .i64 p.code, .slice p.ga p.gaps.length p.gc] 45 (0, 0)) :: refP zh q s (.slice da s1.data.length dc) :: l) (w.alloc (.cells #[.int .i64 p.kind, .int .i64 p.src, .int .i64 p.num, .int .i64 p.cls, .string p.name, .int .i64 p.size, .int .i64 p.off, .slice p.da p.data.length p.dc, .int .u32 (p.sum : Nat), .int .i64 p.code, .slice p.ga p.gaps.length p.gc] 45)) := hs.alloc hls (.cells #[.int .i64 p.kind, .int .i64 p.src, .int .i64 p.num, .int .i64 p.cls, .string p.name, .int .i64 p.size, .int .i64 p.off, .slice p.da p.data.length p.dc, .int .u32 (p.sum : Nat), .int .i64 p.code, .slice p.ga p.gaps.length p.gc] 45)
  have hbl : ∀ B ∈ blkP w.heap.size (.cells #[.int .i64 p.kind, .int .i64 p.src, .int .i64 p.num, .int .i64 p.cls, .string p.name, .int .i64 p.size, .int .i64 p.off, .slice p.da p.data.length p.dc, .int .u32 (p.sum : Nat), .int .i64 p.code, .slice p.ga p.gaps.length p.gc] 45 (0, 0)) :: l, Stable B := stabC (blkP_stable _ _) hl
  have hP := cClock hbl zh q s (.slice da s1.data.length dc) hz.swap now
  rw [hp1] at hP
  have HP := hid hP
  obtain ⟨wv0, h0⟩ := Sts.openRef hz.swap
  have k8 : (w.alloc (.cells #[.int .i64 p.kind, .int .i64 p.src, .int .i64 p.num, .int .i64 p.cls, .string p.name, .int .i64 p.size, .int .i64 p.off, .slice p.da p.data.length p.dc, .int .u32 (p.sum : Nat), .int .i64 p.code, .slice p.ga p.gaps.length p.gc] 45)).cell? ⟨q, 8, none⟩ = some (.int .i64 (s.phase + 1)) := (Sts.refC h0).k8
  have HL := hid hl
  have HBL := hid hbl
  have HG := hid hg
  clear hP h0 hz hs hl hbl hp1 hls hg hdl
  go_enter Try.func72, Try.ntmps72
  go_wp2_with (first | (go_at_call 109; refine HP.out.mono ?_; rintro e w1 ⟨rfl, h1⟩; obtain ⟨wv, h2⟩ := Sts.openRef h1; have HB := hid h2.third; clear h1 h2))
  have HLB : Hid (∀ B ∈ blkP w.heap.size (.cells #[.int .i64 p.kind, .int .i64 p.src, .int .i64 p.num, .int .i64 p.cls, .string p.name, .int .i64 p.size, .int .i64 p.off, .slice p.da p.data.length p.dc, .int .u32 (p.sum : Nat), .int .i64 p.code, .slice p.ga p.gaps.length p.gc] 45 (0, 0)) :: blkP q (.cells ((s1).rcs (.slice da s1.data.length dc) wv) 38 (0, 0)) :: ownW zh wv (s1).wanted :: l, Stable B) := hid (stabC (blkP_stable _ _) (stabC (blkP_stable _ _) (stabC (ownW_stable _ _ _) HL.out)))
  have hgb : ∀ y, Sts W (blkP w.heap.size (.cells #[.int .i64 p.kind, .int .i64 p.src, .int .i64 p.num, .int .i64 p.cls, .string p.name, .int .i64 p.size, .int .i64 p.off, .slice p.da p.data.length p.dc, .int .u32 (p.sum : Nat), .int .i64 p.code, .slice p.ga p.gaps.length p.gc] 45 (0, 0)) :: blkP q (.cells ((s1).rcs (.slice da s1.data.length dc) wv) 38 (0, 0)) :: ownW zh wv (s1).wanted :: l) y → RdR y (.slice p.ga p.gaps.length p.gc) p.gaps := fun y hy => HG.out _ y (Sts.shutRef hy.tail)
  refine wp_region_ord (.pure 0 (.eff 1 (.pure 2 (.pure 3 (.pure 4 (.pure 5 (.pure 6 (.pure 7 (.pure 8 (.pure 9 (.pure 10 (.pure 11 (.pure 12 (.pure 13 (.pure 14 (.pure 15 (.pure 16 (.pure 17 (.pure 18 (.pure 19 (.pure 20 (.pure 21 (.pure 22 (.pure 23 (.pure 24 (.pure 25 (.pure 26 .nil))))))))))))))))))))))))))) (fun y => RefC y q s1 (.slice da s1.data.length dc) wv ∧ PduC y w.heap.size p) (fun y => Sts W (blkP w.heap.size (.cells #[.int .i64 p.kind, .int .i64 p.src, .int .i64 p.num, .int .i64 p.cls, .string p.name, .int .i64 p.size, .int .i64 p.off, .slice p.da p.data.length p.dc, .int .u32 (p.sum : Nat), .int .i64 p.code, .slice p.ga p.gaps.length p.gc] 45 (0, 0)) :: blkP q (.cells ((s1).rcs (.slice da s1.data.length dc) wv) 38 (0, 0)) :: ownW zh wv (s1).wanted :: l) y) (by kernel_rfl) (by kernel_rfl) (HB.out.drew HLB.out) (fun y hy => ⟨Sts.refC hy.tail, ⟨(Sts.boxCell hy 0 _ rfl).1, (Sts.boxCell hy 1 _ rfl).1, (Sts.boxCell hy 2 _ rfl).1, (Sts.boxCell hy 3 _ rfl).1, (Sts.boxCell hy 4 _ rfl).1, (Sts.boxCell hy 5 _ rfl).1, (Sts.boxCell hy 6 _ rfl).1, (Sts.boxCell hy 7 _ rfl).1, (Sts.boxCell hy 8 _ rfl).1, (Sts.boxCell hy 9 _ rfl).1, (Sts.boxCell hy 10 _ rfl).1⟩⟩) ?_
  apply ord_pure (ho := rfl)
  · go_simp
  · intro x hx; obtain ⟨hC, hP⟩ := hx; have k0 := hC.k0; have k1 := hC.k1; have p0 := hP.c0; have p1 := hP.c1; have p2 := hP.c2; have p3 := hP.c3; have p4 := hP.c4; have p5 := hP.c5; have p6 := hP.c6; have p7 := hP.c7; have p8 := hP.c8; have p9 := hP.c9; have p10 := hP.c10; clear hC hP; go_simp; rfl
  apply ord_norm
  · go_simp; rfl
  apply ord_eff (ho := rfl)
  · go_simp
  intro y hy
  refine eff_call (f := 57) (by go_simp; rfl) (cRefValid y p hname hdata (by omega) (hgb y hy)) ?_
  rintro e w2 ⟨rfl, hb⟩
  refine ⟨_, rfl, (fun y => RefC y q s1 (.slice da s1.data.length dc) wv ∧ PduC y w.heap.size p), (fun y => Sts W (blkP w.heap.size (.cells #[.int .i64 p.kind, .int .i64 p.src, .int .i64 p.num, .int .i64 p.cls, .string p.name, .int .i64 p.size, .int .i64 p.off, .slice p.da p.data.length p.dc, .int .u32 (p.sum : Nat), .int .i64 p.code, .slice p.ga p.gaps.length p.gc] 45 (0, 0)) :: blkP q (.cells ((s1).rcs (.slice da s1.data.length dc) wv) 38 (0, 0)) :: ownW zh wv (s1).wanted :: l) y), hy.quiet HLB.out hb, (fun y hy => ⟨Sts.refC hy.tail, ⟨(Sts.boxCell hy 0 _ rfl).1, (Sts.boxCell hy 1 _ rfl).1, (Sts.boxCell hy 2 _ rfl).1, (Sts.boxCell hy 3 _ rfl).1, (Sts.boxCell hy 4 _ rfl).1, (Sts.boxCell hy 5 _ rfl).1, (Sts.boxCell hy 6 _ rfl).1, (Sts.boxCell hy 7 _ rfl).1, (Sts.boxCell hy 8 _ rfl).1, (Sts.boxCell hy 9 _ rfl).1, (Sts.boxCell hy 10 _ rfl).1⟩⟩), (fun _ h => h), ?_⟩
  rw [hv]
  clear hb hy y
  apply ord_norm
  · go_simp; rfl
  iterate 2
    (apply ord_pure (ho := rfl)
     · go_simp
     · intro x hx; obtain ⟨hC, hP⟩ := hx; have k0 := hC.k0; have k1 := hC.k1; have p0 := hP.c0; have p1 := hP.c1; have p2 := hP.c2; have p3 := hP.c3; have p4 := hP.c4; have p5 := hP.c5; have p6 := hP.c6; have p7 := hP.c7; have p8 := hP.c8; have p9 := hP.c9; have p10 := hP.c10; clear hC hP; go_simp; rfl
     apply ord_norm
     · go_simp; rfl)
  iterate 7
    (apply ord_skip (ho := rfl)
     · go_simp
       try (intro hu; cases hu)
     apply ord_norm
     · go_simp; rfl)
  iterate 2
    (apply ord_pure (ho := rfl)
     · go_simp
     · intro x hx; obtain ⟨hC, hP⟩ := hx; have k0 := hC.k0; have k1 := hC.k1; have p0 := hP.c0; have p1 := hP.c1; have p2 := hP.c2; have p3 := hP.c3; have p4 := hP.c4; have p5 := hP.c5; have p6 := hP.c6; have p7 := hP.c7; have p8 := hP.c8; have p9 := hP.c9; have p10 := hP.c10; clear hC hP; go_simp; rfl
     apply ord_norm
     · go_simp; rfl)
  iterate 13
    (apply ord_skip (ho := rfl)
     · go_simp
       try (intro hu; cases hu)
     apply ord_norm
     · go_simp; rfl)
  apply ord_pure (ho := rfl)
  · go_simp
  · intro x hx; obtain ⟨hC, hP⟩ := hx; have k0 := hC.k0; have k1 := hC.k1; have p0 := hP.c0; have p1 := hP.c1; have p2 := hP.c2; have p3 := hP.c3; have p4 := hP.c4; have p5 := hP.c5; have p6 := hP.c6; have p7 := hP.c7; have p8 := hP.c8; have p9 := hP.c9; have p10 := hP.c10; clear hC hP; go_simp; rfl
  apply ord_norm
  · go_simp; rfl
  refine ord_nil fun z hz => ?_
  have HZ := hid ((Sts.shutRef hz.tail))
  clear hz HB
  go_wp2_with fail
  go_ret
  exact ⟨rfl, HZ.out⟩
set_option maxRecDepth 100000 in
set_option maxHeartbeats 4000000 in
theorem cRTakeId (hv : p.validB = true) (hi : ((p.src == s1.src) && (p.num == s1.num)) = false) : Calls Try.prog 72 #[.pointer (some ⟨q, 0, none⟩), .agg p.cells, .int .i64 now] w fun e w' => e = .returned (.int .i64 1) ∧ Sts W (refP zh q (s1) (.slice da s1.data.length dc) :: l) w' := by
  have hi' : (p.src == s1.src) = false ∨ (p.src == s1.src) = true ∧ (p.num == s1.num) = false := by
    cases h : (p.src == s1.src)
    · exact Or.inl rfl
    · rw [h] at hi; exact Or.inr ⟨rfl, by simpa using hi⟩
  clear hi
  rcases hi' with i1 | ⟨i1, i2⟩
  all_goals
    have HPC : p.cells = #[.int .i64 p.kind, .int .i64 p.src, .int .i64 p.num, .int .i64 p.cls, .string p.name, .int .i64 p.size, .int .i64 p.off, .slice p.da p.data.length p.dc, .int .u32 (p.sum : Nat), .int .i64 p.code, .slice p.ga p.gaps.length p.gc] := rfl
    rw [HPC]
    clear HPC
    rw [hdl] at hs
    have hls : ∀ B ∈ refP zh q s (.slice da s1.data.length dc) :: l, Stable B := stabC (refP_stable _ _ _ _) hl
    have hz : Sts W (blkP w.heap.size (.cells #[.int .i64 p.kind, .int .i64 p.src, .int .i64 p.num, .int .i64 p.cls, .string p.name, .int .i64 p.size, .int .i64 p.off, .slice p.da p.data.length p.dc, .int .u32 (p.sum : Nat), .int .i64 p.code, .slice p.ga p.gaps.length p.gc] 45 (0, 0)) :: refP zh q s (.slice da s1.data.length dc) :: l) (w.alloc (.cells #[.int .i64 p.kind, .int .i64 p.src, .int .i64 p.num, .int .i64 p.cls, .string p.name, .int .i64 p.size, .int .i64 p.off, .slice p.da p.data.length p.dc, .int .u32 (p.sum : Nat), .int .i64 p.code, .slice p.ga p.gaps.length p.gc] 45)) := hs.alloc hls (.cells #[.int .i64 p.kind, .int .i64 p.src, .int .i64 p.num, .int .i64 p.cls, .string p.name, .int .i64 p.size, .int .i64 p.off, .slice p.da p.data.length p.dc, .int .u32 (p.sum : Nat), .int .i64 p.code, .slice p.ga p.gaps.length p.gc] 45)
    have hbl : ∀ B ∈ blkP w.heap.size (.cells #[.int .i64 p.kind, .int .i64 p.src, .int .i64 p.num, .int .i64 p.cls, .string p.name, .int .i64 p.size, .int .i64 p.off, .slice p.da p.data.length p.dc, .int .u32 (p.sum : Nat), .int .i64 p.code, .slice p.ga p.gaps.length p.gc] 45 (0, 0)) :: l, Stable B := stabC (blkP_stable _ _) hl
    have hP := cClock hbl zh q s (.slice da s1.data.length dc) hz.swap now
    rw [hp1] at hP
    have HP := hid hP
    obtain ⟨wv0, h0⟩ := Sts.openRef hz.swap
    have k8 : (w.alloc (.cells #[.int .i64 p.kind, .int .i64 p.src, .int .i64 p.num, .int .i64 p.cls, .string p.name, .int .i64 p.size, .int .i64 p.off, .slice p.da p.data.length p.dc, .int .u32 (p.sum : Nat), .int .i64 p.code, .slice p.ga p.gaps.length p.gc] 45)).cell? ⟨q, 8, none⟩ = some (.int .i64 (s.phase + 1)) := (Sts.refC h0).k8
    have HL := hid hl
    have HBL := hid hbl
    have HG := hid hg
    clear hP h0 hz hs hl hbl hp1 hls hg hdl
    go_enter Try.func72, Try.ntmps72
    go_wp2_with (first | (go_at_call 109; refine HP.out.mono ?_; rintro e w1 ⟨rfl, h1⟩; obtain ⟨wv, h2⟩ := Sts.openRef h1; have HB := hid h2.third; clear h1 h2))
    have HLB : Hid (∀ B ∈ blkP w.heap.size (.cells #[.int .i64 p.kind, .int .i64 p.src, .int .i64 p.num, .int .i64 p.cls, .string p.name, .int .i64 p.size, .int .i64 p.off, .slice p.da p.data.length p.dc, .int .u32 (p.sum : Nat), .int .i64 p.code, .slice p.ga p.gaps.length p.gc] 45 (0, 0)) :: blkP q (.cells ((s1).rcs (.slice da s1.data.length dc) wv) 38 (0, 0)) :: ownW zh wv (s1).wanted :: l, Stable B) := hid (stabC (blkP_stable _ _) (stabC (blkP_stable _ _) (stabC (ownW_stable _ _ _) HL.out)))
    have hgb : ∀ y, Sts W (blkP w.heap.size (.cells #[.int .i64 p.kind, .int .i64 p.src, .int .i64 p.num, .int .i64 p.cls, .string p.name, .int .i64 p.size, .int .i64 p.off, .slice p.da p.data.length p.dc, .int .u32 (p.sum : Nat), .int .i64 p.code, .slice p.ga p.gaps.length p.gc] 45 (0, 0)) :: blkP q (.cells ((s1).rcs (.slice da s1.data.length dc) wv) 38 (0, 0)) :: ownW zh wv (s1).wanted :: l) y → RdR y (.slice p.ga p.gaps.length p.gc) p.gaps := fun y hy => HG.out _ y (Sts.shutRef hy.tail)
    refine wp_region_ord (.pure 0 (.eff 1 (.pure 2 (.pure 3 (.pure 4 (.pure 5 (.pure 6 (.pure 7 (.pure 8 (.pure 9 (.pure 10 (.pure 11 (.pure 12 (.pure 13 (.pure 14 (.pure 15 (.pure 16 (.pure 17 (.pure 18 (.pure 19 (.pure 20 (.pure 21 (.pure 22 (.pure 23 (.pure 24 (.pure 25 (.pure 26 .nil))))))))))))))))))))))))))) (fun y => RefC y q s1 (.slice da s1.data.length dc) wv ∧ PduC y w.heap.size p) (fun y => Sts W (blkP w.heap.size (.cells #[.int .i64 p.kind, .int .i64 p.src, .int .i64 p.num, .int .i64 p.cls, .string p.name, .int .i64 p.size, .int .i64 p.off, .slice p.da p.data.length p.dc, .int .u32 (p.sum : Nat), .int .i64 p.code, .slice p.ga p.gaps.length p.gc] 45 (0, 0)) :: blkP q (.cells ((s1).rcs (.slice da s1.data.length dc) wv) 38 (0, 0)) :: ownW zh wv (s1).wanted :: l) y) (by kernel_rfl) (by kernel_rfl) (HB.out.drew HLB.out) (fun y hy => ⟨Sts.refC hy.tail, ⟨(Sts.boxCell hy 0 _ rfl).1, (Sts.boxCell hy 1 _ rfl).1, (Sts.boxCell hy 2 _ rfl).1, (Sts.boxCell hy 3 _ rfl).1, (Sts.boxCell hy 4 _ rfl).1, (Sts.boxCell hy 5 _ rfl).1, (Sts.boxCell hy 6 _ rfl).1, (Sts.boxCell hy 7 _ rfl).1, (Sts.boxCell hy 8 _ rfl).1, (Sts.boxCell hy 9 _ rfl).1, (Sts.boxCell hy 10 _ rfl).1⟩⟩) ?_
    apply ord_pure (ho := rfl)
    · go_simp
    · intro x hx; obtain ⟨hC, hP⟩ := hx; have k0 := hC.k0; have k1 := hC.k1; have p0 := hP.c0; have p1 := hP.c1; have p2 := hP.c2; have p3 := hP.c3; have p4 := hP.c4; have p5 := hP.c5; have p6 := hP.c6; have p7 := hP.c7; have p8 := hP.c8; have p9 := hP.c9; have p10 := hP.c10; clear hC hP; go_simp; rfl
    apply ord_norm
    · go_simp; rfl
    apply ord_eff (ho := rfl)
    · go_simp
    intro y hy
    refine eff_call (f := 57) (by go_simp; rfl) (cRefValid y p hname hdata (by omega) (hgb y hy)) ?_
    rintro e w2 ⟨rfl, hb⟩
    refine ⟨_, rfl, (fun y => RefC y q s1 (.slice da s1.data.length dc) wv ∧ PduC y w.heap.size p), (fun y => Sts W (blkP w.heap.size (.cells #[.int .i64 p.kind, .int .i64 p.src, .int .i64 p.num, .int .i64 p.cls, .string p.name, .int .i64 p.size, .int .i64 p.off, .slice p.da p.data.length p.dc, .int .u32 (p.sum : Nat), .int .i64 p.code, .slice p.ga p.gaps.length p.gc] 45 (0, 0)) :: blkP q (.cells ((s1).rcs (.slice da s1.data.length dc) wv) 38 (0, 0)) :: ownW zh wv (s1).wanted :: l) y), hy.quiet HLB.out hb, (fun y hy => ⟨Sts.refC hy.tail, ⟨(Sts.boxCell hy 0 _ rfl).1, (Sts.boxCell hy 1 _ rfl).1, (Sts.boxCell hy 2 _ rfl).1, (Sts.boxCell hy 3 _ rfl).1, (Sts.boxCell hy 4 _ rfl).1, (Sts.boxCell hy 5 _ rfl).1, (Sts.boxCell hy 6 _ rfl).1, (Sts.boxCell hy 7 _ rfl).1, (Sts.boxCell hy 8 _ rfl).1, (Sts.boxCell hy 9 _ rfl).1, (Sts.boxCell hy 10 _ rfl).1⟩⟩), (fun _ h => h), ?_⟩
    rw [hv]
    clear hb hy y
    apply ord_norm
    · go_simp; rfl
    iterate 2
      (apply ord_pure (ho := rfl)
       · go_simp
       · intro x hx; obtain ⟨hC, hP⟩ := hx; have k0 := hC.k0; have k1 := hC.k1; have p0 := hP.c0; have p1 := hP.c1; have p2 := hP.c2; have p3 := hP.c3; have p4 := hP.c4; have p5 := hP.c5; have p6 := hP.c6; have p7 := hP.c7; have p8 := hP.c8; have p9 := hP.c9; have p10 := hP.c10; clear hC hP; go_simp; rfl
       apply ord_norm
       · go_simp; rfl)
    iterate 9
      (apply ord_pure (ho := rfl)
       · go_simp
       · intro x hx; obtain ⟨hC, hP⟩ := hx; have k0 := hC.k0; have k1 := hC.k1; have p0 := hP.c0; have p1 := hP.c1; have p2 := hP.c2; have p3 := hP.c3; have p4 := hP.c4; have p5 := hP.c5; have p6 := hP.c6; have p7 := hP.c7; have p8 := hP.c8; have p9 := hP.c9; have p10 := hP.c10; clear hC hP; go_simp; rfl
       apply ord_norm
       · go_simp; rfl)
    iterate 13
      (apply ord_skip (ho := rfl)
       · go_simp
         try (intro hu; cases hu)
       apply ord_norm
       · go_simp; rfl)
    apply ord_pure (ho := rfl)
    · go_simp
    · intro x hx; obtain ⟨hC, hP⟩ := hx; have k0 := hC.k0; have k1 := hC.k1; have p0 := hP.c0; have p1 := hP.c1; have p2 := hP.c2; have p3 := hP.c3; have p4 := hP.c4; have p5 := hP.c5; have p6 := hP.c6; have p7 := hP.c7; have p8 := hP.c8; have p9 := hP.c9; have p10 := hP.c10; clear hC hP; go_simp; rfl
    apply ord_norm
    · go_simp; rfl
    refine ord_nil fun z hz => ?_
    have HZ := hid ((Sts.shutRef hz.tail))
    clear hz HB
    go_wp2_with fail
    go_ret
    exact ⟨rfl, HZ.out⟩
set_option maxRecDepth 100000 in
set_option maxHeartbeats 4000000 in
theorem cRTakeFwd (hv : p.validB = true) (i1 : (p.src == s1.src) = true) (i2 : (p.num == s1.num) = true) (n4 : (p.kind != 4) = true) (n5 : (p.kind != 5) = true) (n6 : (p.kind != 6) = true) : Calls Try.prog 72 #[.pointer (some ⟨q, 0, none⟩), .agg p.cells, .int .i64 now] w fun e w' => e = .returned (.int .i64 1) ∧ Sts W (refP zh q (s1) (.slice da s1.data.length dc) :: l) w' := by
  have HPC : p.cells = #[.int .i64 p.kind, .int .i64 p.src, .int .i64 p.num, .int .i64 p.cls, .string p.name, .int .i64 p.size, .int .i64 p.off, .slice p.da p.data.length p.dc, .int .u32 (p.sum : Nat), .int .i64 p.code, .slice p.ga p.gaps.length p.gc] := rfl
  rw [HPC]
  clear HPC
  rw [hdl] at hs
  have hls : ∀ B ∈ refP zh q s (.slice da s1.data.length dc) :: l, Stable B := stabC (refP_stable _ _ _ _) hl
  have hz : Sts W (blkP w.heap.size (.cells #[.int .i64 p.kind, .int .i64 p.src, .int .i64 p.num, .int .i64 p.cls, .string p.name, .int .i64 p.size, .int .i64 p.off, .slice p.da p.data.length p.dc, .int .u32 (p.sum : Nat), .int .i64 p.code, .slice p.ga p.gaps.length p.gc] 45 (0, 0)) :: refP zh q s (.slice da s1.data.length dc) :: l) (w.alloc (.cells #[.int .i64 p.kind, .int .i64 p.src, .int .i64 p.num, .int .i64 p.cls, .string p.name, .int .i64 p.size, .int .i64 p.off, .slice p.da p.data.length p.dc, .int .u32 (p.sum : Nat), .int .i64 p.code, .slice p.ga p.gaps.length p.gc] 45)) := hs.alloc hls (.cells #[.int .i64 p.kind, .int .i64 p.src, .int .i64 p.num, .int .i64 p.cls, .string p.name, .int .i64 p.size, .int .i64 p.off, .slice p.da p.data.length p.dc, .int .u32 (p.sum : Nat), .int .i64 p.code, .slice p.ga p.gaps.length p.gc] 45)
  have hbl : ∀ B ∈ blkP w.heap.size (.cells #[.int .i64 p.kind, .int .i64 p.src, .int .i64 p.num, .int .i64 p.cls, .string p.name, .int .i64 p.size, .int .i64 p.off, .slice p.da p.data.length p.dc, .int .u32 (p.sum : Nat), .int .i64 p.code, .slice p.ga p.gaps.length p.gc] 45 (0, 0)) :: l, Stable B := stabC (blkP_stable _ _) hl
  have hP := cClock hbl zh q s (.slice da s1.data.length dc) hz.swap now
  rw [hp1] at hP
  have HP := hid hP
  obtain ⟨wv0, h0⟩ := Sts.openRef hz.swap
  have k8 : (w.alloc (.cells #[.int .i64 p.kind, .int .i64 p.src, .int .i64 p.num, .int .i64 p.cls, .string p.name, .int .i64 p.size, .int .i64 p.off, .slice p.da p.data.length p.dc, .int .u32 (p.sum : Nat), .int .i64 p.code, .slice p.ga p.gaps.length p.gc] 45)).cell? ⟨q, 8, none⟩ = some (.int .i64 (s.phase + 1)) := (Sts.refC h0).k8
  have HL := hid hl
  have HBL := hid hbl
  have HG := hid hg
  clear hP h0 hz hs hl hbl hp1 hls hg hdl
  go_enter Try.func72, Try.ntmps72
  go_wp2_with (first | (go_at_call 109; refine HP.out.mono ?_; rintro e w1 ⟨rfl, h1⟩; obtain ⟨wv, h2⟩ := Sts.openRef h1; have HB := hid h2.third; clear h1 h2))
  have HLB : Hid (∀ B ∈ blkP w.heap.size (.cells #[.int .i64 p.kind, .int .i64 p.src, .int .i64 p.num, .int .i64 p.cls, .string p.name, .int .i64 p.size, .int .i64 p.off, .slice p.da p.data.length p.dc, .int .u32 (p.sum : Nat), .int .i64 p.code, .slice p.ga p.gaps.length p.gc] 45 (0, 0)) :: blkP q (.cells ((s1).rcs (.slice da s1.data.length dc) wv) 38 (0, 0)) :: ownW zh wv (s1).wanted :: l, Stable B) := hid (stabC (blkP_stable _ _) (stabC (blkP_stable _ _) (stabC (ownW_stable _ _ _) HL.out)))
  have hgb : ∀ y, Sts W (blkP w.heap.size (.cells #[.int .i64 p.kind, .int .i64 p.src, .int .i64 p.num, .int .i64 p.cls, .string p.name, .int .i64 p.size, .int .i64 p.off, .slice p.da p.data.length p.dc, .int .u32 (p.sum : Nat), .int .i64 p.code, .slice p.ga p.gaps.length p.gc] 45 (0, 0)) :: blkP q (.cells ((s1).rcs (.slice da s1.data.length dc) wv) 38 (0, 0)) :: ownW zh wv (s1).wanted :: l) y → RdR y (.slice p.ga p.gaps.length p.gc) p.gaps := fun y hy => HG.out _ y (Sts.shutRef hy.tail)
  refine wp_region_ord (.pure 0 (.eff 1 (.pure 2 (.pure 3 (.pure 4 (.pure 5 (.pure 6 (.pure 7 (.pure 8 (.pure 9 (.pure 10 (.pure 11 (.pure 12 (.pure 13 (.pure 14 (.pure 15 (.pure 16 (.pure 17 (.pure 18 (.pure 19 (.pure 20 (.pure 21 (.pure 22 (.pure 23 (.pure 24 (.pure 25 (.pure 26 .nil))))))))))))))))))))))))))) (fun y => RefC y q s1 (.slice da s1.data.length dc) wv ∧ PduC y w.heap.size p) (fun y => Sts W (blkP w.heap.size (.cells #[.int .i64 p.kind, .int .i64 p.src, .int .i64 p.num, .int .i64 p.cls, .string p.name, .int .i64 p.size, .int .i64 p.off, .slice p.da p.data.length p.dc, .int .u32 (p.sum : Nat), .int .i64 p.code, .slice p.ga p.gaps.length p.gc] 45 (0, 0)) :: blkP q (.cells ((s1).rcs (.slice da s1.data.length dc) wv) 38 (0, 0)) :: ownW zh wv (s1).wanted :: l) y) (by kernel_rfl) (by kernel_rfl) (HB.out.drew HLB.out) (fun y hy => ⟨Sts.refC hy.tail, ⟨(Sts.boxCell hy 0 _ rfl).1, (Sts.boxCell hy 1 _ rfl).1, (Sts.boxCell hy 2 _ rfl).1, (Sts.boxCell hy 3 _ rfl).1, (Sts.boxCell hy 4 _ rfl).1, (Sts.boxCell hy 5 _ rfl).1, (Sts.boxCell hy 6 _ rfl).1, (Sts.boxCell hy 7 _ rfl).1, (Sts.boxCell hy 8 _ rfl).1, (Sts.boxCell hy 9 _ rfl).1, (Sts.boxCell hy 10 _ rfl).1⟩⟩) ?_
  apply ord_pure (ho := rfl)
  · go_simp
  · intro x hx; obtain ⟨hC, hP⟩ := hx; have k0 := hC.k0; have k1 := hC.k1; have p0 := hP.c0; have p1 := hP.c1; have p2 := hP.c2; have p3 := hP.c3; have p4 := hP.c4; have p5 := hP.c5; have p6 := hP.c6; have p7 := hP.c7; have p8 := hP.c8; have p9 := hP.c9; have p10 := hP.c10; clear hC hP; go_simp; rfl
  apply ord_norm
  · go_simp; rfl
  apply ord_eff (ho := rfl)
  · go_simp
  intro y hy
  refine eff_call (f := 57) (by go_simp; rfl) (cRefValid y p hname hdata (by omega) (hgb y hy)) ?_
  rintro e w2 ⟨rfl, hb⟩
  refine ⟨_, rfl, (fun y => RefC y q s1 (.slice da s1.data.length dc) wv ∧ PduC y w.heap.size p), (fun y => Sts W (blkP w.heap.size (.cells #[.int .i64 p.kind, .int .i64 p.src, .int .i64 p.num, .int .i64 p.cls, .string p.name, .int .i64 p.size, .int .i64 p.off, .slice p.da p.data.length p.dc, .int .u32 (p.sum : Nat), .int .i64 p.code, .slice p.ga p.gaps.length p.gc] 45 (0, 0)) :: blkP q (.cells ((s1).rcs (.slice da s1.data.length dc) wv) 38 (0, 0)) :: ownW zh wv (s1).wanted :: l) y), hy.quiet HLB.out hb, (fun y hy => ⟨Sts.refC hy.tail, ⟨(Sts.boxCell hy 0 _ rfl).1, (Sts.boxCell hy 1 _ rfl).1, (Sts.boxCell hy 2 _ rfl).1, (Sts.boxCell hy 3 _ rfl).1, (Sts.boxCell hy 4 _ rfl).1, (Sts.boxCell hy 5 _ rfl).1, (Sts.boxCell hy 6 _ rfl).1, (Sts.boxCell hy 7 _ rfl).1, (Sts.boxCell hy 8 _ rfl).1, (Sts.boxCell hy 9 _ rfl).1, (Sts.boxCell hy 10 _ rfl).1⟩⟩), (fun _ h => h), ?_⟩
  rw [hv]
  clear hb hy y
  apply ord_norm
  · go_simp; rfl
  iterate 2
    (apply ord_pure (ho := rfl)
     · go_simp
     · intro x hx; obtain ⟨hC, hP⟩ := hx; have k0 := hC.k0; have k1 := hC.k1; have p0 := hP.c0; have p1 := hP.c1; have p2 := hP.c2; have p3 := hP.c3; have p4 := hP.c4; have p5 := hP.c5; have p6 := hP.c6; have p7 := hP.c7; have p8 := hP.c8; have p9 := hP.c9; have p10 := hP.c10; clear hC hP; go_simp; rfl
     apply ord_norm
     · go_simp; rfl)
  iterate 23
    (apply ord_pure (ho := rfl)
     · go_simp
     · intro x hx; obtain ⟨hC, hP⟩ := hx; have k0 := hC.k0; have k1 := hC.k1; have p0 := hP.c0; have p1 := hP.c1; have p2 := hP.c2; have p3 := hP.c3; have p4 := hP.c4; have p5 := hP.c5; have p6 := hP.c6; have p7 := hP.c7; have p8 := hP.c8; have p9 := hP.c9; have p10 := hP.c10; clear hC hP; go_simp; rfl
     apply ord_norm
     · go_simp; rfl)
  refine ord_nil fun z hz => ?_
  have HZ := hid ((Sts.shutRef hz.tail))
  clear hz HB
  go_wp2_with fail
  go_ret
  exact ⟨rfl, HZ.out⟩
end
end Go.Proofs.Ytfjadhkhmhnccaa
namespace Go.Proofs.Ytfjadhkhmhnccaa
open Go.RowKit Go.Proofs.Num
theorem reqGo_data (l : List Rng.R) : ∀ s : Fil.Src, (s.reqGo l).data = s.data := by
  induction l with
  | nil => intro s; rfl
  | cons g l ih =>
    intro s
    show ((s.req1 g).reqGo l).data = _
    rw [ih]
    unfold Fil.Src.req1
    split <;> rfl
section
variable {W w : World} {l : List HProp} (hl : ∀ B ∈ l, Stable B) (zh : Value × List Rng.R) (q : Nat) (s s1 : Fil.Src) (da : Option Addr) (dc : Nat) (hs : Sts W (refP zh q s (.slice da s.data.length dc) :: l) w) (now : Int) (hp1 : s.pass now = s1) (hz0 : (s.phase + 1 == 0) = false) (hdl : s.data.length = s1.data.length) (p : Fil.Pdu) (hname : p.name.size ≤ 1000000) (hdata : p.data.length < 1000000000) (hgl : p.gaps.length < 1000) (hg : ∀ A y, Sts W (A :: l) y → RdR y (.slice p.ga p.gaps.length p.gc) p.gaps)
include hl hs hp1 hz0 hdl hname hdata hgl hg
set_option maxRecDepth 100000 in
set_option maxHeartbeats 4000000 in
theorem cRTakeNak0 (hzr : ∀ A y, Sts W (A :: l) y → RdR y zh.1 zh.2) (hv : p.validB = true) (i1 : (p.src == s1.src) = true) (i2 : (p.num == s1.num) = true) (hk : p.kind = 4) (hc : (s1.cls == 1) = false) (hok : ∀ r ∈ p.gaps, r.2 ≤ (s1.data.length : Int))  (hgz : ∀ r ∈ p.gaps, (r.2 == 0) = (r == (0, 0))) (c1 : s1.phase = 0) (hwl : s1.wanted.length < 300000) : Calls Try.prog 72 #[.pointer (some ⟨q, 0, none⟩), .agg p.cells, .int .i64 now] w fun e w' => e = .returned (.int .i64 0) ∧ Sts W (refP zh q ({ s1.reqGo p.gaps with timer := (s1.reqGo p.gaps).now, tries := 0 }) (.slice da s1.data.length dc) :: l) w' := by
  have HZR := hid hzr
  clear hzr
  have HOK := hid hok
  clear hok
  have HGZ := hid hgz
  clear hgz
  have HK := hid hk
  clear hk
  have HPC : p.cells = #[.int .i64 p.kind, .int .i64 p.src, .int .i64 p.num, .int .i64 p.cls, .string p.name, .int .i64 p.size, .int .i64 p.off, .slice p.da p.data.length p.dc, .int .u32 (p.sum : Nat), .int .i64 p.code, .slice p.ga p.gaps.length p.gc] := rfl
  rw [HPC]
  clear HPC
  rw [hdl] at hs
  have hls : ∀ B ∈ refP zh q s (.slice da s1.data.length dc) :: l, Stable B := stabC (refP_stable _ _ _ _) hl
  have hz : Sts W (blkP w.heap.size (.cells #[.int .i64 p.kind, .int .i64 p.src, .int .i64 p.num, .int .i64 p.cls, .string p.name, .int .i64 p.size, .int .i64 p.off, .slice p.da p.data.length p.dc, .int .u32 (p.sum : Nat), .int .i64 p.code, .slice p.ga p.gaps.length p.gc] 45 (0, 0)) :: refP zh q s (.slice da s1.data.length dc) :: l) (w.alloc (.cells #[.int .i64 p.kind, .int .i64 p.src, .int .i64 p.num, .int .i64 p.cls, .string p.name, .int .i64 p.size, .int .i64 p.off, .slice p.da p.data.length p.dc, .int .u32 (p.sum : Nat), .int .i64 p.code, .slice p.ga p.gaps.length p.gc] 45)) := hs.alloc hls (.cells #[.int .i64 p.kind, .int .i64 p.src, .int .i64 p.num, .int .i64 p.cls, .string p.name, .int .i64 p.size, .int .i64 p.off, .slice p.da p.data.length p.dc, .int .u32 (p.sum : Nat), .int .i64 p.code, .slice p.ga p.gaps.length p.gc] 45)
  have hbl : ∀ B ∈ blkP w.heap.size (.cells #[.int .i64 p.kind, .int .i64 p.src, .int .i64 p.num, .int .i64 p.cls, .string p.name, .int .i64 p.size, .int .i64 p.off, .slice p.da p.data.length p.dc, .int .u32 (p.sum : Nat), .int .i64 p.code, .slice p.ga p.gaps.length p.gc] 45 (0, 0)) :: l, Stable B := stabC (blkP_stable _ _) hl
  have hP := cClock hbl zh q s (.slice da s1.data.length dc) hz.swap now
  rw [hp1] at hP
  have HP := hid hP
  obtain ⟨wv0, h0⟩ := Sts.openRef hz.swap
  have k8 : (w.alloc (.cells #[.int .i64 p.kind, .int .i64 p.src, .int .i64 p.num, .int .i64 p.cls, .string p.name, .int .i64 p.size, .int .i64 p.off, .slice p.da p.data.length p.dc, .int .u32 (p.sum : Nat), .int .i64 p.code, .slice p.ga p.gaps.length p.gc] 45)).cell? ⟨q, 8, none⟩ = some (.int .i64 (s.phase + 1)) := (Sts.refC h0).k8
  have HL := hid hl
  have HBL := hid hbl
  have HG := hid hg
  clear hP h0 hz hs hl hbl hp1 hls hg hdl
  go_enter Try.func72, Try.ntmps72
  go_wp2_with (first | (go_at_call 109; refine HP.out.mono ?_; rintro e w1 ⟨rfl, h1⟩; obtain ⟨wv, h2⟩ := Sts.openRef h1; have HB := hid h2.third; clear h1 h2))
  have HLB : Hid (∀ B ∈ blkP w.heap.size (.cells #[.int .i64 p.kind, .int .i64 p.src, .int .i64 p.num, .int .i64 p.cls, .string p.name, .int .i64 p.size, .int .i64 p.off, .slice p.da p.data.length p.dc, .int .u32 (p.sum : Nat), .int .i64 p.code, .slice p.ga p.gaps.length p.gc] 45 (0, 0)) :: blkP q (.cells ((s1).rcs (.slice da s1.data.length dc) wv) 38 (0, 0)) :: ownW zh wv (s1).wanted :: l, Stable B) := hid (stabC (blkP_stable _ _) (stabC (blkP_stable _ _) (stabC (ownW_stable _ _ _) HL.out)))
  have hgb : ∀ y, Sts W (blkP w.heap.size (.cells #[.int .i64 p.kind, .int .i64 p.src, .int .i64 p.num, .int .i64 p.cls, .string p.name, .int .i64 p.size, .int .i64 p.off, .slice p.da p.data.length p.dc, .int .u32 (p.sum : Nat), .int .i64 p.code, .slice p.ga p.gaps.length p.gc] 45 (0, 0)) :: blkP q (.cells ((s1).rcs (.slice da s1.data.length dc) wv) 38 (0, 0)) :: ownW zh wv (s1).wanted :: l) y → RdR y (.slice p.ga p.gaps.length p.gc) p.gaps := fun y hy => HG.out _ y (Sts.shutRef hy.tail)
  refine wp_region_ord (.pure 0 (.eff 1 (.pure 2 (.pure 3 (.pure 4 (.pure 5 (.pure 6 (.pure 7 (.pure 8 (.pure 9 (.pure 10 (.pure 11 (.pure 12 (.pure 13 (.pure 14 (.pure 15 (.pure 16 (.pure 17 (.pure 18 (.pure 19 (.pure 20 (.pure 21 (.pure 22 (.pure 23 (.pure 24 (.pure 25 (.pure 26 .nil))))))))))))))))))))))))))) (fun y => RefC y q s1 (.slice da s1.data.length dc) wv ∧ PduC y w.heap.size p) (fun y => Sts W (blkP w.heap.size (.cells #[.int .i64 p.kind, .int .i64 p.src, .int .i64 p.num, .int .i64 p.cls, .string p.name, .int .i64 p.size, .int .i64 p.off, .slice p.da p.data.length p.dc, .int .u32 (p.sum : Nat), .int .i64 p.code, .slice p.ga p.gaps.length p.gc] 45 (0, 0)) :: blkP q (.cells ((s1).rcs (.slice da s1.data.length dc) wv) 38 (0, 0)) :: ownW zh wv (s1).wanted :: l) y) (by kernel_rfl) (by kernel_rfl) (HB.out.drew HLB.out) (fun y hy => ⟨Sts.refC hy.tail, ⟨(Sts.boxCell hy 0 _ rfl).1, (Sts.boxCell hy 1 _ rfl).1, (Sts.boxCell hy 2 _ rfl).1, (Sts.boxCell hy 3 _ rfl).1, (Sts.boxCell hy 4 _ rfl).1, (Sts.boxCell hy 5 _ rfl).1, (Sts.boxCell hy 6 _ rfl).1, (Sts.boxCell hy 7 _ rfl).1, (Sts.boxCell hy 8 _ rfl).1, (Sts.boxCell hy 9 _ rfl).1, (Sts.boxCell hy 10 _ rfl).1⟩⟩) ?_
  apply ord_pure (ho := rfl)
  · go_simp
  · intro x hx; obtain ⟨hC, hP⟩ := hx; have k0 := hC.k0; have k1 := hC.k1; have p0 := hP.c0; have p1 := hP.c1; have p2 := hP.c2; have p3 := hP.c3; have p4 := hP.c4; have p5 := hP.c5; have p6 := hP.c6; have p7 := hP.c7; have p8 := hP.c8; have p9 := hP.c9; have p10 := hP.c10; clear hC hP; go_simp; rfl
  apply ord_norm
  · go_simp; rfl
  apply ord_eff (ho := rfl)
  · go_simp
  intro y hy
  refine eff_call (f := 57) (by go_simp; rfl) (cRefValid y p hname hdata (by omega) (hgb y hy)) ?_
  rintro e w2 ⟨rfl, hb⟩
  refine ⟨_, rfl, (fun y => RefC y q s1 (.slice da s1.data.length dc) wv ∧ PduC y w.heap.size p), (fun y => Sts W (blkP w.heap.size (.cells #[.int .i64 p.kind, .int .i64 p.src, .int .i64 p.num, .int .i64 p.cls, .string p.name, .int .i64 p.size, .int .i64 p.off, .slice p.da p.data.length p.dc, .int .u32 (p.sum : Nat), .int .i64 p.code, .slice p.ga p.gaps.length p.gc] 45 (0, 0)) :: blkP q (.cells ((s1).rcs (.slice da s1.data.length dc) wv) 38 (0, 0)) :: ownW zh wv (s1).wanted :: l) y), hy.quiet HLB.out hb, (fun y hy => ⟨Sts.refC hy.tail, ⟨(Sts.boxCell hy 0 _ rfl).1, (Sts.boxCell hy 1 _ rfl).1, (Sts.boxCell hy 2 _ rfl).1, (Sts.boxCell hy 3 _ rfl).1, (Sts.boxCell hy 4 _ rfl).1, (Sts.boxCell hy 5 _ rfl).1, (Sts.boxCell hy 6 _ rfl).1, (Sts.boxCell hy 7 _ rfl).1, (Sts.boxCell hy 8 _ rfl).1, (Sts.boxCell hy 9 _ rfl).1, (Sts.boxCell hy 10 _ rfl).1⟩⟩), (fun _ h => h), ?_⟩
  rw [hv]
  clear hb hy y
  apply ord_norm
  · go_simp; rfl
  iterate 2
    (apply ord_pure (ho := rfl)
     · go_simp
     · intro x hx; obtain ⟨hC, hP⟩ := hx; have k0 := hC.k0; have k1 := hC.k1; have p0 := hP.c0; have p1 := hP.c1; have p2 := hP.c2; have p3 := hP.c3; have p4 := hP.c4; have p5 := hP.c5; have p6 := hP.c6; have p7 := hP.c7; have p8 := hP.c8; have p9 := hP.c9; have p10 := hP.c10; rw [HK.out] at p0; clear hC hP; go_simp; rfl
     apply ord_norm
     · go_simp; rfl)
  iterate 9
    (apply ord_pure (ho := rfl)
     · go_simp
     · intro x hx; obtain ⟨hC, hP⟩ := hx; have k0 := hC.k0; have k1 := hC.k1; have p0 := hP.c0; have p1 := hP.c1; have p2 := hP.c2; have p3 := hP.c3; have p4 := hP.c4; have p5 := hP.c5; have p6 := hP.c6; have p7 := hP.c7; have p8 := hP.c8; have p9 := hP.c9; have p10 := hP.c10; rw [HK.out] at p0; clear hC hP; go_simp; rfl
     apply ord_norm
     · go_simp; rfl)
  iterate 4
    (apply ord_pure (ho := rfl)
     · go_simp
     · intro x hx; obtain ⟨hC, hP⟩ := hx; have k0 := hC.k0; have k1 := hC.k1; have p0 := hP.c0; have p1 := hP.c1; have p2 := hP.c2; have p3 := hP.c3; have p4 := hP.c4; have p5 := hP.c5; have p6 := hP.c6; have p7 := hP.c7; have p8 := hP.c8; have p9 := hP.c9; have p10 := hP.c10; rw [HK.out] at p0; clear hC hP; go_simp; rfl
     apply ord_norm
     · go_simp; rfl)
  iterate 3
    (apply ord_skip (ho := rfl)
     · go_simp
       try (intro hu; cases hu)
     apply ord_norm
     · go_simp; rfl)
  iterate 2
    (apply ord_pure (ho := rfl)
     · go_simp
     · intro x hx; obtain ⟨hC, hP⟩ := hx; have k0 := hC.k0; have k1 := hC.k1; have p0 := hP.c0; have p1 := hP.c1; have p2 := hP.c2; have p3 := hP.c3; have p4 := hP.c4; have p5 := hP.c5; have p6 := hP.c6; have p7 := hP.c7; have p8 := hP.c8; have p9 := hP.c9; have p10 := hP.c10; rw [HK.out] at p0; clear hC hP; go_simp; rfl
     apply ord_norm
     · go_simp; rfl)
  iterate 3
    (apply ord_skip (ho := rfl)
     · go_simp
       try (intro hu; cases hu)
     apply ord_norm
     · go_simp; rfl)
  iterate 2
    (apply ord_pure (ho := rfl)
     · go_simp
     · intro x hx; obtain ⟨hC, hP⟩ := hx; have k0 := hC.k0; have k1 := hC.k1; have p0 := hP.c0; have p1 := hP.c1; have p2 := hP.c2; have p3 := hP.c3; have p4 := hP.c4; have p5 := hP.c5; have p6 := hP.c6; have p7 := hP.c7; have p8 := hP.c8; have p9 := hP.c9; have p10 := hP.c10; rw [HK.out] at p0; clear hC hP; go_simp; rfl
     apply ord_norm
     · go_simp; rfl)
  refine ord_nil fun z hz => ?_
  have hC := Sts.refC hz.tail
  have k2 := hC.k2
  have k8 := hC.k8
  have k4 := hC.k4
  clear hC
  have p0 := (Sts.boxCell hz 0 _ rfl).1
  have p9 := (Sts.boxCell hz 9 _ rfl).1
  have p10 := (Sts.boxCell hz 10 _ rfl).1
  rw [HK.out] at p0
  rw [c1] at k8
  clear c1
  have HZ := hid hz
  clear hz HB p9
  go_wp2_with fail
  go_loopw [8] (fun i wr => ∃ k : Nat, k ≤ p.gaps.length ∧ i = .int .i64 k ∧ (∀ r ∈ p.gaps.take k, r.2 ≤ (s1.data.length : Int)) ∧ Sts W (blkP w.heap.size (.cells #[.int .i64 p.kind, .int .i64 p.src, .int .i64 p.num, .int .i64 p.cls, .string p.name, .int .i64 p.size, .int .i64 p.off, .slice p.da p.data.length p.dc, .int .u32 (p.sum : Nat), .int .i64 p.code, .slice p.ga p.gaps.length p.gc] 45 (0, 0)) :: blkP q (.cells ((s1).rcs (.slice da s1.data.length dc) wv) 38 (0, 0)) :: ownW zh wv (s1).wanted :: l) wr) (fun i _ => p.gaps.length - (intOf i).toNat)
  case atStart => exact ⟨0, by omega, rfl, by simp, HZ.out⟩
  case round =>
    obtain ⟨k, hk, rfl, hpre, hS⟩ := hrel
    have HPR := hid hpre
    have HS1 := hid hS
    have hC := Sts.refC hS.tail
    have k4 := hC.k4
    clear hC
    have p10 := (Sts.boxCell hS 10 _ rfl).1
    clear hpre HZ
    by_cases hlt : k < p.gaps.length
    · obtain ⟨a', c', e', -, hx⟩ := hgb _ hS
      injection e' with e1 e2 e3
      obtain ⟨b, off, hab, hb, c0, c1⟩ := hx k hlt
      rw [← e1] at hab
      clear e1 e2 e3 hx
      have HT : Hid (p.gaps.take (k + 1) = p.gaps.take k ++ [p.gaps[k]]) := hid (by rw [List.take_add_one, List.getElem?_eq_getElem hlt]; rfl)
      have hxk := HOK.out _ (List.getElem_mem hlt)
      generalize p.gaps[k] = x at *
      obtain ⟨f, t⟩ := x
      simp only [] at c0 c1 hxk
      rw [hab] at p10
      have HQ := hid (fun n => HS1.out.quiet HLB.out (below_drewN (Below.refl _ _) n))
      clear hS
      have hd : decide (t > (s1.data.length : Int)) = false := decide_eq_false (by omega)
      clear hxk
      go_wp2_with fail
      go_quiet (fail)
      go_wp2_with fail
      go_roundw
      case rel =>
        refine ⟨k + 1, by omega, by go_num, ?_, HQ.out _⟩
        intro r hr
        rw [HT.out, List.mem_append] at hr
        rcases hr with hr | hr
        · exact HPR.out r hr
        · simp at hr; subst hr; simpa using hd
      case measure => simp [intOf]; omega
    · obtain rfl : k = p.gaps.length := by omega
      clear HPR
      go_wp2_with fail
      go_loopw [9] (fun i wr => ∃ (k2 : Nat) (wv2 : Value), k2 ≤ p.gaps.length ∧ i = .int .i64 k2 ∧ Sts W (blkP w.heap.size (.cells #[.int .i64 p.kind, .int .i64 p.src, .int .i64 p.num, .int .i64 p.cls, .string p.name, .int .i64 p.size, .int .i64 p.off, .slice p.da p.data.length p.dc, .int .u32 (p.sum : Nat), .int .i64 p.code, .slice p.ga p.gaps.length p.gc] 45 (0, 0)) :: blkP q (.cells (((s1.reqGo (p.gaps.take k2))).rcs (.slice da s1.data.length dc) wv2) 38 (0, 0)) :: ownW zh wv2 ((s1.reqGo (p.gaps.take k2))).wanted :: l) wr) (fun i _ => p.gaps.length - (intOf i).toNat)
      case atStart => exact ⟨0, wv, by omega, rfl, HS1.out⟩
      case round =>
        clear HS1 k4 p10
        obtain ⟨k2, wv2, hk2, rfl, hS2⟩ := hrel
        have hgb2 := HG.out _ wr (Sts.shutRef (s := (s1.reqGo (p.gaps.take k2))) (wv := wv2) hS2.tail)
        have hrw : ∀ y, Sts W (blkP w.heap.size (.cells #[.int .i64 p.kind, .int .i64 p.src, .int .i64 p.num, .int .i64 p.cls, .string p.name, .int .i64 p.size, .int .i64 p.off, .slice p.da p.data.length p.dc, .int .u32 (p.sum : Nat), .int .i64 p.code, .slice p.ga p.gaps.length p.gc] 45 (0, 0)) :: blkP q (.cells (((s1.reqGo (p.gaps.take k2))).rcs (.slice da s1.data.length dc) wv2) 38 (0, 0)) :: ownW zh wv2 ((s1.reqGo (p.gaps.take k2))).wanted :: l) y → RdR y wv2 (s1.reqGo (p.gaps.take k2)).wanted := fun y hy => by obtain ⟨F, hF⟩ := hy.tail.tail.head; exact ownW.rd hF (HZR.out _ _ hy.tail.tail)
        have hwlen : (s1.reqGo (p.gaps.take k2)).wanted.length < 390000 := by
          have h1 := Fil.Src.reqGo_len (p.gaps.take k2) s1
          rw [List.length_take] at h1
          omega
        have HS2 := hid hS2
        have p10 := (Sts.boxCell hS2 10 _ rfl).1
        by_cases hlt2 : k2 < p.gaps.length
        · obtain ⟨a', c', e', -, hx⟩ := hgb2
          injection e' with e1 e2 e3
          obtain ⟨b, off, hab, hb, c0, c1⟩ := hx k2 hlt2
          rw [← e1] at hab
          clear e1 e2 e3 hx
          have HT : Hid (s1.reqGo (p.gaps.take (k2 + 1)) = (s1.reqGo (p.gaps.take k2)).req1 p.gaps[k2]) := hid (by rw [List.take_add_one, List.getElem?_eq_getElem hlt2]; exact Fil.Src.reqGo_snoc _ _ _)
          have hgz := HGZ.out _ (List.getElem_mem hlt2)
          obtain ⟨x, hxe⟩ : ∃ x, x = p.gaps[k2] := ⟨_, rfl⟩
          rw [← hxe] at c0 c1 hgz HT
          replace hxe := hid hxe
          generalize (s1.reqGo (p.gaps.take k2)) = s2 at *
          obtain ⟨f, t⟩ := x
          have HXE : Hid (p.gaps[k2] = (f, t)) := hid hxe.out.symm
          clear hxe
          simp only [] at c0 c1 hgz
          rw [hab] at p10
          have HAB := hid hab
          clear hab
          cases hd : (t == 0) with
          | true =>
            have HR1 : Hid (s2.req1 (f, t) = { s2 with mreq := true }) := hid (by unfold Fil.Src.req1; rw [if_pos (by rw [hd] at hgz; simpa using hgz.symm)])
            clear hS2 hgz hrw
            go_wp2_with (first | (refine wpList_cell HS2.out.swap (stabC (blkP_stable _ _) (stabC (ownW_stable _ _ _) HL.out)) rfl (.tmp 144) (.const (.bool true)) 4 rfl 15 (.bool true) rfl rfl szBool (show 15 < 20 by decide) rfl ?_; intro w3 hz; replace hz : Sts W (blkP q (.cells (({ s2 with mreq := true }).rcs (.slice da s1.data.length dc) wv2) 38 (0, 0)) :: blkP w.heap.size (.cells #[.int .i64 p.kind, .int .i64 p.src, .int .i64 p.num, .int .i64 p.cls, .string p.name, .int .i64 p.size, .int .i64 p.off, .slice p.da p.data.length p.dc, .int .u32 (p.sum : Nat), .int .i64 p.code, .slice p.ga p.gaps.length p.gc] 45 (0, 0)) :: ownW zh wv2 (s2).wanted :: l) w3 := hz; have H3 := hid hz; clear hz))
            go_roundw
            case rel => exact ⟨k2 + 1, wv2, by omega, by go_num, by rw [HT.out, HR1.out]; exact H3.out.swap⟩
            case measure => simp [intOf]; omega
          | false =>
            have HR1 : Hid (s2.req1 (f, t) = { s2 with wanted := Rng.ofV (s2.wanted ++ [(f, t)]) }) := hid (by unfold Fil.Src.req1; rw [if_neg (by rw [hd] at hgz; intro h; rw [h] at hgz; simp at hgz)])
            have HRW := hid hrw
            have hCC : Hid (∀ y, Sts W (blkP w.heap.size (.cells #[.int .i64 p.kind, .int .i64 p.src, .int .i64 p.num, .int .i64 p.cls, .string p.name, .int .i64 p.size, .int .i64 p.off, .slice p.da p.data.length p.dc, .int .u32 (p.sum : Nat), .int .i64 p.code, .slice p.ga p.gaps.length p.gc] 45 (0, 0)) :: blkP q (.cells ((s2).rcs (.slice da s1.data.length dc) wv2) 38 (0, 0)) :: ownW zh wv2 (s2).wanted :: l) y → RefC y q s2 (.slice da s1.data.length dc) wv2 ∧ y.cell? ⟨w.heap.size, 10, none⟩ = some (.slice (some ⟨b, off, none⟩) p.gaps.length p.gc) ∧ y.cell? ⟨b, off + k2 * 2, none⟩ = some (.int .i64 f) ∧ y.cell? ⟨b, off + k2 * 2 + 1, none⟩ = some (.int .i64 t)) := hid fun y hy => by
              obtain ⟨a', c', e', -, hx⟩ := HG.out _ y (Sts.shutRef (s := s2) (wv := wv2) hy.tail)
              have e9 := e'
              injection e9 with e1 e2 e3
              obtain ⟨b3, off3, hab3, hb3, g0, g1⟩ := hx k2 hlt2
              rw [← e1, HAB.out] at hab3
              injection hab3 with hab3
              injection hab3 with i1 i2
              subst i1
              subst i2
              have h10 := (Sts.boxCell hy 10 _ rfl).1
              rw [HAB.out] at h10
              rw [HXE.out] at g0 g1
              exact ⟨Sts.refC hy.tail, h10, g0, g1⟩
            have HWN := hid hwlen
            clear hS2 hgz hrw hgb
            go_wp2_with fail
            refine wp_region_ordS (fun i => i == 13) (.pure 0 (.pure 1 (.pure 2 (.pure 3 (.pure 4 (.pure 5 (.pure 6 (.pure 7 (.pure 8 (.pure 9 (.eff 10 (.pure 11 (.pure 12 (.eff 13 .nil)))))))))))))) (fun y => RefC y q s2 (.slice da s1.data.length dc) wv2 ∧ y.cell? ⟨w.heap.size, 10, none⟩ = some (.slice (some ⟨b, off, none⟩) p.gaps.length p.gc) ∧ y.cell? ⟨b, off + k2 * 2, none⟩ = some (.int .i64 f) ∧ y.cell? ⟨b, off + k2 * 2 + 1, none⟩ = some (.int .i64 t)) (fun y => Sts W (blkP w.heap.size (.cells #[.int .i64 p.kind, .int .i64 p.src, .int .i64 p.num, .int .i64 p.cls, .string p.name, .int .i64 p.size, .int .i64 p.off, .slice p.da p.data.length p.dc, .int .u32 (p.sum : Nat), .int .i64 p.code, .slice p.ga p.gaps.length p.gc] 45 (0, 0)) :: blkP q (.cells ((s2).rcs (.slice da s1.data.length dc) wv2) 38 (0, 0)) :: ownW zh wv2 (s2).wanted :: l) y) (by kernel_rfl) (by kernel_rfl) (HS2.out.drew (stabC (blkP_stable _ _) (stabC (blkP_stable _ _) (stabC (ownW_stable _ _ _) HL.out)))) (fun y hy => hCC.out y hy) ?_
            iterate 10
              (apply ord_pure (ho := rfl)
               · go_simp
               · intro x hx; obtain ⟨hC, h10, q0, q1⟩ := hx; have k18 := hC.k18; clear hC; go_simp; rfl
               apply ord_norm
               · go_simp; rfl)
            apply ord_eff (ho := rfl)
            · go_simp
            intro y hy
            refine eff_call (f := 45) (by go_simp) (cRefAdd y wv2 s2.wanted f t (HRW.out y hy) HWN.out) ?_
            rintro e w2 ⟨r, rfl, hN⟩
            have hs2 := Sts.newR (stabC (blkP_stable _ _) (stabC (blkP_stable _ _) (stabC (ownW_stable _ _ _) HL.out))) hy hN
            have HRE := hid hN.rd.eq
            refine ⟨_, rfl, (fun y => RefC y q s2 (.slice da s1.data.length dc) wv2 ∧ y.cell? ⟨w.heap.size, 10, none⟩ = some (.slice (some ⟨b, off, none⟩) p.gaps.length p.gc) ∧ y.cell? ⟨b, off + k2 * 2, none⟩ = some (.int .i64 f) ∧ y.cell? ⟨b, off + k2 * 2 + 1, none⟩ = some (.int .i64 t)), (fun y => Sts W (rowP 81 2 r (Rng.ofV (s2.wanted ++ [(f, t)])).length (Fil.rcells (Rng.ofV (s2.wanted ++ [(f, t)]))) :: blkP w.heap.size (.cells #[.int .i64 p.kind, .int .i64 p.src, .int .i64 p.num, .int .i64 p.cls, .string p.name, .int .i64 p.size, .int .i64 p.off, .slice p.da p.data.length p.dc, .int .u32 (p.sum : Nat), .int .i64 p.code, .slice p.ga p.gaps.length p.gc] 45 (0, 0)) :: blkP q (.cells ((s2).rcs (.slice da s1.data.length dc) wv2) 38 (0, 0)) :: ownW zh wv2 (s2).wanted :: l) y), hs2, (fun y hy => hCC.out y hy.tail), (fun _ h => h), ?_⟩
            clear hs2 hN hy y
            apply ord_norm
            · go_simp; rfl
            iterate 2
              (apply ord_pure (ho := rfl)
               · go_simp
               · intro x hx; obtain ⟨hC, h10, q0, q1⟩ := hx; have k18 := hC.k18; clear hC; go_simp; rfl
               apply ord_norm
               · go_simp; rfl)
            apply ord_eff (ho := rfl)
            · go_simp
            intro y hy
            have hp1 := (hy.perm (List.perm_middle (l₁ := [_, _, _]) (l₂ := l))).tail
            have hp2 := hp1.perm (List.perm_middle (l₁ := [_, _]) (l₂ := l))
            have k18 := (Sts.refC hp2).k18
            have f18 := (Sts.refC hp2).fr 18
            have hst := Sts.store (stabC (rowP_stable _ _ _ _ _) (stabC (blkP_stable _ _) HL.out)) hp2 (j := 18) r
            obtain ⟨ra, rc, hre⟩ := HRE.out
            refine effS_skip (fun _ => True) (fun y => Sts W (blkP q (.cells (({ s2 with wanted := Rng.ofV (s2.wanted ++ [(f, t)]) }).rcs (.slice da s1.data.length dc) r) 38 (0, 0)) :: rowP 81 2 r (Rng.ofV (s2.wanted ++ [(f, t)])).length (Fil.rcells (Rng.ofV (s2.wanted ++ [(f, t)]))) :: blkP w.heap.size (.cells #[.int .i64 p.kind, .int .i64 p.src, .int .i64 p.num, .int .i64 p.cls, .string p.name, .int .i64 p.size, .int .i64 p.off, .slice p.da p.data.length p.dc, .int .u32 (p.sum : Nat), .int .i64 p.code, .slice p.ga p.gaps.length p.gc] 45 (0, 0)) :: l) y) (w := y.setCell ⟨q, 18, none⟩ r) rfl ?_ hst (fun _ _ => trivial) ?_
            · clear hst hp1 hp2 hy HRE
              subst hre
              go_simp
            clear hst hp1 hp2 hy k18 f18 y hre HS2
            apply ord_norm
            · go_simp; rfl
            refine ord_nil fun z hz => ?_
            have HZ2 : Hid (Sts W (blkP w.heap.size (.cells #[.int .i64 p.kind, .int .i64 p.src, .int .i64 p.num, .int .i64 p.cls, .string p.name, .int .i64 p.size, .int .i64 p.off, .slice p.da p.data.length p.dc, .int .u32 (p.sum : Nat), .int .i64 p.code, .slice p.ga p.gaps.length p.gc] 45 (0, 0)) :: blkP q (.cells (({ s2 with wanted := Rng.ofV (s2.wanted ++ [(f, t)]) }).rcs (.slice da s1.data.length dc) r) 38 (0, 0)) :: ownW zh r ({ s2 with wanted := Rng.ofV (s2.wanted ++ [(f, t)]) }).wanted :: l) z) := hid (Sts.second ((hz.swap.weaken (B := ownW zh r (Rng.ofV (s2.wanted ++ [(f, t)]))) (fun F h => Or.inr h)).third))
            clear hz
            go_wp2_with fail
            go_roundw
            case rel => exact ⟨k2 + 1, r, by omega, by go_num, by rw [HT.out, HR1.out]; exact HZ2.out⟩
            case measure => simp [intOf]; omega
        · obtain rfl : k2 = p.gaps.length := by omega
          rw [List.take_length] at HS2
          clear hgb2 hrw hwlen hS2 hgb HGZ HOK
          obtain ⟨s2, hs2⟩ : ∃ s2, s2 = s1.reqGo p.gaps := ⟨_, rfl⟩
          rw [← hs2] at HS2
          have HSE := hid hs2
          clear hs2
          have hC := Sts.refC HS2.out.tail
          have k10 := hC.k10
          clear hC
          go_wp2_with (first | (refine wpList_cell HS2.out.swap (stabC (blkP_stable _ _) (stabC (ownW_stable _ _ _) HL.out)) rfl (.tmp 164) (.tmp 162) 3 rfl 11 (.int .i64 s2.now) rfl rfl szInt (show 11 < 20 by decide) rfl ?_; intro w3 hz; replace hz : Sts W (blkP q (.cells (({ s2 with timer := s2.now }).rcs (.slice da s1.data.length dc) wv2) 38 (0, 0)) :: blkP w.heap.size (.cells #[.int .i64 p.kind, .int .i64 p.src, .int .i64 p.num, .int .i64 p.cls, .string p.name, .int .i64 p.size, .int .i64 p.off, .slice p.da p.data.length p.dc, .int .u32 (p.sum : Nat), .int .i64 p.code, .slice p.ga p.gaps.length p.gc] 45 (0, 0)) :: ownW zh wv2 (s2).wanted :: l) w3 := hz; have H3 := hid hz; clear hz) | (refine wpList_cell H3.out (stabC (blkP_stable _ _) (stabC (ownW_stable _ _ _) HL.out)) rfl (.tmp 167) (.const (.int .i64 0)) 3 rfl 12 (.int .i64 0) rfl rfl szInt (show 12 < 20 by decide) rfl ?_; intro w4 hz; replace hz : Sts W (blkP q (.cells (({ s2 with timer := s2.now, tries := 0 }).rcs (.slice da s1.data.length dc) wv2) 38 (0, 0)) :: blkP w.heap.size (.cells #[.int .i64 p.kind, .int .i64 p.src, .int .i64 p.num, .int .i64 p.cls, .string p.name, .int .i64 p.size, .int .i64 p.off, .slice p.da p.data.length p.dc, .int .u32 (p.sum : Nat), .int .i64 p.code, .slice p.ga p.gaps.length p.gc] 45 (0, 0)) :: ownW zh wv2 (s2).wanted :: l) w4 := hz; have H4 := hid hz; clear hz))
          go_ret
          rw [← HSE.out]
          exact ⟨rfl, Sts.shutRef (s := { s2 with timer := s2.now, tries := 0 }) (wv := wv2) H4.out.swap.tail⟩
set_option maxRecDepth 100000 in
set_option maxHeartbeats 4000000 in
theorem cRTakeNak1 (hzr : ∀ A y, Sts W (A :: l) y → RdR y zh.1 zh.2) (hv : p.validB = true) (i1 : (p.src == s1.src) = true) (i2 : (p.num == s1.num) = true) (hk : p.kind = 4) (hc : (s1.cls == 1) = false) (hok : ∀ r ∈ p.gaps, r.2 ≤ (s1.data.length : Int))  (hgz : ∀ r ∈ p.gaps, (r.2 == 0) = (r == (0, 0))) (c1 : s1.phase = 1) (hwl : s1.wanted.length < 300000) : Calls Try.prog 72 #[.pointer (some ⟨q, 0, none⟩), .agg p.cells, .int .i64 now] w fun e w' => e = .returned (.int .i64 0) ∧ Sts W (refP zh q ({ s1.reqGo p.gaps with timer := (s1.reqGo p.gaps).now, tries := 0 }) (.slice da s1.data.length dc) :: l) w' := by
  have HZR := hid hzr
  clear hzr
  have HOK := hid hok
  clear hok
  have HGZ := hid hgz
  clear hgz
  have HK := hid hk
  clear hk
  have HPC : p.cells = #[.int .i64 p.kind, .int .i64 p.src, .int .i64 p.num, .int .i64 p.cls, .string p.name, .int .i64 p.size, .int .i64 p.off, .slice p.da p.data.length p.dc, .int .u32 (p.sum : Nat), .int .i64 p.code, .slice p.ga p.gaps.length p.gc] := rfl
  rw [HPC]
  clear HPC
  rw [hdl] at hs
  have hls : ∀ B ∈ refP zh q s (.slice da s1.data.length dc) :: l, Stable B := stabC (refP_stable _ _ _ _) hl
  have hz : Sts W (blkP w.heap.size (.cells #[.int .i64 p.kind, .int .i64 p.src, .int .i64 p.num, .int .i64 p.cls, .string p.name, .int .i64 p.size, .int .i64 p.off, .slice p.da p.data.length p.dc, .int .u32 (p.sum : Nat), .int .i64 p.code, .slice p.ga p.gaps.length p.gc] 45 (0, 0)) :: refP zh q s (.slice da s1.data.length dc) :: l) (w.alloc (.cells #[.int .i64 p.kind, .int .i64 p.src, .int .i64 p.num, .int .i64 p.cls, .string p.name, .int .i64 p.size, .int .i64 p.off, .slice p.da p.data.length p.dc, .int .u32 (p.sum : Nat), .int .i64 p.code, .slice p.ga p.gaps.length p.gc] 45)) := hs.alloc hls (.cells #[.int .i64 p.kind, .int .i64 p.src, .int .i64 p.num, .int .i64 p.cls, .string p.name, .int .i64 p.size, .int .i64 p.off, .slice p.da p.data.length p.dc, .int .u32 (p.sum : Nat), .int .i64 p.code, .slice p.ga p.gaps.length p.gc] 45)
  have hbl : ∀ B ∈ blkP w.heap.size (.cells #[.int .i64 p.kind, .int .i64 p.src, .int .i64 p.num, .int .i64 p.cls, .string p.name, .int .i64 p.size, .int .i64 p.off, .slice p.da p.data.length p.dc, .int .u32 (p.sum : Nat), .int .i64 p.code, .slice p.ga p.gaps.length p.gc] 45 (0, 0)) :: l, Stable B := stabC (blkP_stable _ _) hl
  have hP := cClock hbl zh q s (.slice da s1.data.length dc) hz.swap now
  rw [hp1] at hP
  have HP := hid hP
  obtain ⟨wv0, h0⟩ := Sts.openRef hz.swap
  have k8 : (w.alloc (.cells #[.int .i64 p.kind, .int .i64 p.src, .int .i64 p.num, .int .i64 p.cls, .string p.name, .int .i64 p.size, .int .i64 p.off, .slice p.da p.data.length p.dc, .int .u32 (p.sum : Nat), .int .i64 p.code, .slice p.ga p.gaps.length p.gc] 45)).cell? ⟨q, 8, none⟩ = some (.int .i64 (s.phase + 1)) := (Sts.refC h0).k8
  have HL := hid hl
  have HBL := hid hbl
  have HG := hid hg
  clear hP h0 hz hs hl hbl hp1 hls hg hdl
  go_enter Try.func72, Try.ntmps72
  go_wp2_with (first | (go_at_call 109; refine HP.out.mono ?_; rintro e w1 ⟨rfl, h1⟩; obtain ⟨wv, h2⟩ := Sts.openRef h1; have HB := hid h2.third; clear h1 h2))
  have HLB : Hid (∀ B ∈ blkP w.heap.size (.cells #[.int .i64 p.kind, .int .i64 p.src, .int .i64 p.num, .int .i64 p.cls, .string p.name, .int .i64 p.size, .int .i64 p.off, .slice p.da p.data.length p.dc, .int .u32 (p.sum : Nat), .int .i64 p.code, .slice p.ga p.gaps.length p.gc] 45 (0, 0)) :: blkP q (.cells ((s1).rcs (.slice da s1.data.length dc) wv) 38 (0, 0)) :: ownW zh wv (s1).wanted :: l, Stable B) := hid (stabC (blkP_stable _ _) (stabC (blkP_stable _ _) (stabC (ownW_stable _ _ _) HL.out)))
  have hgb : ∀ y, Sts W (blkP w.heap.size (.cells #[.int .i64 p.kind, .int .i64 p.src, .int .i64 p.num, .int .i64 p.cls, .string p.name, .int .i64 p.size, .int .i64 p.off, .slice p.da p.data.length p.dc, .int .u32 (p.sum : Nat), .int .i64 p.code, .slice p.ga p.gaps.length p.gc] 45 (0, 0)) :: blkP q (.cells ((s1).rcs (.slice da s1.data.length dc) wv) 38 (0, 0)) :: ownW zh wv (s1).wanted :: l) y → RdR y (.slice p.ga p.gaps.length p.gc) p.gaps := fun y hy => HG.out _ y (Sts.shutRef hy.tail)
  refine wp_region_ord (.pure 0 (.eff 1 (.pure 2 (.pure 3 (.pure 4 (.pure 5 (.pure 6 (.pure 7 (.pure 8 (.pure 9 (.pure 10 (.pure 11 (.pure 12 (.pure 13 (.pure 14 (.pure 15 (.pure 16 (.pure 17 (.pure 18 (.pure 19 (.pure 20 (.pure 21 (.pure 22 (.pure 23 (.pure 24 (.pure 25 (.pure 26 .nil))))))))))))))))))))))))))) (fun y => RefC y q s1 (.slice da s1.data.length dc) wv ∧ PduC y w.heap.size p) (fun y => Sts W (blkP w.heap.size (.cells #[.int .i64 p.kind, .int .i64 p.src, .int .i64 p.num, .int .i64 p.cls, .string p.name, .int .i64 p.size, .int .i64 p.off, .slice p.da p.data.length p.dc, .int .u32 (p.sum : Nat), .int .i64 p.code, .slice p.ga p.gaps.length p.gc] 45 (0, 0)) :: blkP q (.cells ((s1).rcs (.slice da s1.data.length dc) wv) 38 (0, 0)) :: ownW zh wv (s1).wanted :: l) y) (by kernel_rfl) (by kernel_rfl) (HB.out.drew HLB.out) (fun y hy => ⟨Sts.refC hy.tail, ⟨(Sts.boxCell hy 0 _ rfl).1, (Sts.boxCell hy 1 _ rfl).1, (Sts.boxCell hy 2 _ rfl).1, (Sts.boxCell hy 3 _ rfl).1, (Sts.boxCell hy 4 _ rfl).1, (Sts.boxCell hy 5 _ rfl).1, (Sts.boxCell hy 6 _ rfl).1, (Sts.boxCell hy 7 _ rfl).1, (Sts.boxCell hy 8 _ rfl).1, (Sts.boxCell hy 9 _ rfl).1, (Sts.boxCell hy 10 _ rfl).1⟩⟩) ?_
  apply ord_pure (ho := rfl)
  · go_simp
  · intro x hx; obtain ⟨hC, hP⟩ := hx; have k0 := hC.k0; have k1 := hC.k1; have p0 := hP.c0; have p1 := hP.c1; have p2 := hP.c2; have p3 := hP.c3; have p4 := hP.c4; have p5 := hP.c5; have p6 := hP.c6; have p7 := hP.c7; have p8 := hP.c8; have p9 := hP.c9; have p10 := hP.c10; clear hC hP; go_simp; rfl
  apply ord_norm
  · go_simp; rfl
  apply ord_eff (ho := rfl)
  · go_simp
  intro y hy
  refine eff_call (f := 57) (by go_simp; rfl) (cRefValid y p hname hdata (by omega) (hgb y hy)) ?_
  rintro e w2 ⟨rfl, hb⟩
  refine ⟨_, rfl, (fun y => RefC y q s1 (.slice da s1.data.length dc) wv ∧ PduC y w.heap.size p), (fun y => Sts W (blkP w.heap.size (.cells #[.int .i64 p.kind, .int .i64 p.src, .int .i64 p.num, .int .i64 p.cls, .string p.name, .int .i64 p.size, .int .i64 p.off, .slice p.da p.data.length p.dc, .int .u32 (p.sum : Nat), .int .i64 p.code, .slice p.ga p.gaps.length p.gc] 45 (0, 0)) :: blkP q (.cells ((s1).rcs (.slice da s1.data.length dc) wv) 38 (0, 0)) :: ownW zh wv (s1).wanted :: l) y), hy.quiet HLB.out hb, (fun y hy => ⟨Sts.refC hy.tail, ⟨(Sts.boxCell hy 0 _ rfl).1, (Sts.boxCell hy 1 _ rfl).1, (Sts.boxCell hy 2 _ rfl).1, (Sts.boxCell hy 3 _ rfl).1, (Sts.boxCell hy 4 _ rfl).1, (Sts.boxCell hy 5 _ rfl).1, (Sts.boxCell hy 6 _ rfl).1, (Sts.boxCell hy 7 _ rfl).1, (Sts.boxCell hy 8 _ rfl).1, (Sts.boxCell hy 9 _ rfl).1, (Sts.boxCell hy 10 _ rfl).1⟩⟩), (fun _ h => h), ?_⟩
  rw [hv]
  clear hb hy y
  apply ord_norm
  · go_simp; rfl
  iterate 2
    (apply ord_pure (ho := rfl)
     · go_simp
     · intro x hx; obtain ⟨hC, hP⟩ := hx; have k0 := hC.k0; have k1 := hC.k1; have p0 := hP.c0; have p1 := hP.c1; have p2 := hP.c2; have p3 := hP.c3; have p4 := hP.c4; have p5 := hP.c5; have p6 := hP.c6; have p7 := hP.c7; have p8 := hP.c8; have p9 := hP.c9; have p10 := hP.c10; rw [HK.out] at p0; clear hC hP; go_simp; rfl
     apply ord_norm
     · go_simp; rfl)
  iterate 9
    (apply ord_pure (ho := rfl)
     · go_simp
     · intro x hx; obtain ⟨hC, hP⟩ := hx; have k0 := hC.k0; have k1 := hC.k1; have p0 := hP.c0; have p1 := hP.c1; have p2 := hP.c2; have p3 := hP.c3; have p4 := hP.c4; have p5 := hP.c5; have p6 := hP.c6; have p7 := hP.c7; have p8 := hP.c8; have p9 := hP.c9; have p10 := hP.c10; rw [HK.out] at p0; clear hC hP; go_simp; rfl
     apply ord_norm
     · go_simp; rfl)
  iterate 4
    (apply ord_pure (ho := rfl)
     · go_simp
     · intro x hx; obtain ⟨hC, hP⟩ := hx; have k0 := hC.k0; have k1 := hC.k1; have p0 := hP.c0; have p1 := hP.c1; have p2 := hP.c2; have p3 := hP.c3; have p4 := hP.c4; have p5 := hP.c5; have p6 := hP.c6; have p7 := hP.c7; have p8 := hP.c8; have p9 := hP.c9; have p10 := hP.c10; rw [HK.out] at p0; clear hC hP; go_simp; rfl
     apply ord_norm
     · go_simp; rfl)
  iterate 3
    (apply ord_skip (ho := rfl)
     · go_simp
       try (intro hu; cases hu)
     apply ord_norm
     · go_simp; rfl)
  iterate 2
    (apply ord_pure (ho := rfl)
     · go_simp
     · intro x hx; obtain ⟨hC, hP⟩ := hx; have k0 := hC.k0; have k1 := hC.k1; have p0 := hP.c0; have p1 := hP.c1; have p2 := hP.c2; have p3 := hP.c3; have p4 := hP.c4; have p5 := hP.c5; have p6 := hP.c6; have p7 := hP.c7; have p8 := hP.c8; have p9 := hP.c9; have p10 := hP.c10; rw [HK.out] at p0; clear hC hP; go_simp; rfl
     apply ord_norm
     · go_simp; rfl)
  iterate 3
    (apply ord_skip (ho := rfl)
     · go_simp
       try (intro hu; cases hu)
     apply ord_norm
     · go_simp; rfl)
  iterate 2
    (apply ord_pure (ho := rfl)
     · go_simp
     · intro x hx; obtain ⟨hC, hP⟩ := hx; have k0 := hC.k0; have k1 := hC.k1; have p0 := hP.c0; have p1 := hP.c1; have p2 := hP.c2; have p3 := hP.c3; have p4 := hP.c4; have p5 := hP.c5; have p6 := hP.c6; have p7 := hP.c7; have p8 := hP.c8; have p9 := hP.c9; have p10 := hP.c10; rw [HK.out] at p0; clear hC hP; go_simp; rfl
     apply ord_norm
     · go_simp; rfl)
  refine ord_nil fun z hz => ?_
  have hC := Sts.refC hz.tail
  have k2 := hC.k2
  have k8 := hC.k8
  have k4 := hC.k4
  clear hC
  have p0 := (Sts.boxCell hz 0 _ rfl).1
  have p9 := (Sts.boxCell hz 9 _ rfl).1
  have p10 := (Sts.boxCell hz 10 _ rfl).1
  rw [HK.out] at p0
  rw [c1] at k8
  clear c1
  have HZ := hid hz
  clear hz HB p9
  go_wp2_with fail
  go_loopw [8] (fun i wr => ∃ k : Nat, k ≤ p.gaps.length ∧ i = .int .i64 k ∧ (∀ r ∈ p.gaps.take k, r.2 ≤ (s1.data.length : Int)) ∧ Sts W (blkP w.heap.size (.cells #[.int .i64 p.kind, .int .i64 p.src, .int .i64 p.num, .int .i64 p.cls, .string p.name, .int .i64 p.size, .int .i64 p.off, .slice p.da p.data.length p.dc, .int .u32 (p.sum : Nat), .int .i64 p.code, .slice p.ga p.gaps.length p.gc] 45 (0, 0)) :: blkP q (.cells ((s1).rcs (.slice da s1.data.length dc) wv) 38 (0, 0)) :: ownW zh wv (s1).wanted :: l) wr) (fun i _ => p.gaps.length - (intOf i).toNat)
  case atStart => exact ⟨0, by omega, rfl, by simp, HZ.out⟩
  case round =>
    obtain ⟨k, hk, rfl, hpre, hS⟩ := hrel
    have HPR := hid hpre
    have HS1 := hid hS
    have hC := Sts.refC hS.tail
    have k4 := hC.k4
    clear hC
    have p10 := (Sts.boxCell hS 10 _ rfl).1
    clear hpre HZ
    by_cases hlt : k < p.gaps.length
    · obtain ⟨a', c', e', -, hx⟩ := hgb _ hS
      injection e' with e1 e2 e3
      obtain ⟨b, off, hab, hb, c0, c1⟩ := hx k hlt
      rw [← e1] at hab
      clear e1 e2 e3 hx
      have HT : Hid (p.gaps.take (k + 1) = p.gaps.take k ++ [p.gaps[k]]) := hid (by rw [List.take_add_one, List.getElem?_eq_getElem hlt]; rfl)
      have hxk := HOK.out _ (List.getElem_mem hlt)
      generalize p.gaps[k] = x at *
      obtain ⟨f, t⟩ := x
      simp only [] at c0 c1 hxk
      rw [hab] at p10
      have HQ := hid (fun n => HS1.out.quiet HLB.out (below_drewN (Below.refl _ _) n))
      clear hS
      have hd : decide (t > (s1.data.length : Int)) = false := decide_eq_false (by omega)
      clear hxk
      go_wp2_with fail
      go_quiet (fail)
      go_wp2_with fail
      go_roundw
      case rel =>
        refine ⟨k + 1, by omega, by go_num, ?_, HQ.out _⟩
        intro r hr
        rw [HT.out, List.mem_append] at hr
        rcases hr with hr | hr
        · exact HPR.out r hr
        · simp at hr; subst hr; simpa using hd
      case measure => simp [intOf]; omega
    · obtain rfl : k = p.gaps.length := by omega
      clear HPR
      go_wp2_with fail
      go_loopw [9] (fun i wr => ∃ (k2 : Nat) (wv2 : Value), k2 ≤ p.gaps.length ∧ i = .int .i64 k2 ∧ Sts W (blkP w.heap.size (.cells #[.int .i64 p.kind, .int .i64 p.src, .int .i64 p.num, .int .i64 p.cls, .string p.name, .int .i64 p.size, .int .i64 p.off, .slice p.da p.data.length p.dc, .int .u32 (p.sum : Nat), .int .i64 p.code, .slice p.ga p.gaps.length p.gc] 45 (0, 0)) :: blkP q (.cells (((s1.reqGo (p.gaps.take k2))).rcs (.slice da s1.data.length dc) wv2) 38 (0, 0)) :: ownW zh wv2 ((s1.reqGo (p.gaps.take k2))).wanted :: l) wr) (fun i _ => p.gaps.length - (intOf i).toNat)
      case atStart => exact ⟨0, wv, by omega, rfl, HS1.out⟩
      case round =>
        clear HS1 k4 p10
        obtain ⟨k2, wv2, hk2, rfl, hS2⟩ := hrel
        have hgb2 := HG.out _ wr (Sts.shutRef (s := (s1.reqGo (p.gaps.take k2))) (wv := wv2) hS2.tail)
        have hrw : ∀ y, Sts W (blkP w.heap.size (.cells #[.int .i64 p.kind, .int .i64 p.src, .int .i64 p.num, .int .i64 p.cls, .string p.name, .int .i64 p.size, .int .i64 p.off, .slice p.da p.data.length p.dc, .int .u32 (p.sum : Nat), .int .i64 p.code, .slice p.ga p.gaps.length p.gc] 45 (0, 0)) :: blkP q (.cells (((s1.reqGo (p.gaps.take k2))).rcs (.slice da s1.data.length dc) wv2) 38 (0, 0)) :: ownW zh wv2 ((s1.reqGo (p.gaps.take k2))).wanted :: l) y → RdR y wv2 (s1.reqGo (p.gaps.take k2)).wanted := fun y hy => by obtain ⟨F, hF⟩ := hy.tail.tail.head; exact ownW.rd hF (HZR.out _ _ hy.tail.tail)
        have hwlen : (s1.reqGo (p.gaps.take k2)).wanted.length < 390000 := by
          have h1 := Fil.Src.reqGo_len (p.gaps.take k2) s1
          rw [List.length_take] at h1
          omega
        have HS2 := hid hS2
        have p10 := (Sts.boxCell hS2 10 _ rfl).1
        by_cases hlt2 : k2 < p.gaps.length
        · obtain ⟨a', c', e', -, hx⟩ := hgb2
          injection e' with e1 e2 e3
          obtain ⟨b, off, hab, hb, c0, c1⟩ := hx k2 hlt2
          rw [← e1] at hab
          clear e1 e2 e3 hx
          have HT : Hid (s1.reqGo (p.gaps.take (k2 + 1)) = (s1.reqGo (p.gaps.take k2)).req1 p.gaps[k2]) := hid (by rw [List.take_add_one, List.getElem?_eq_getElem hlt2]; exact Fil.Src.reqGo_snoc _ _ _)
          have hgz := HGZ.out _ (List.getElem_mem hlt2)
          obtain ⟨x, hxe⟩ : ∃ x, x = p.gaps[k2] := ⟨_, rfl⟩
          rw [← hxe] at c0 c1 hgz HT
          replace hxe := hid hxe
          generalize (s1.reqGo (p.gaps.take k2)) = s2 at *
          obtain ⟨f, t⟩ := x
          have HXE : Hid (p.gaps[k2] = (f, t)) := hid hxe.out.symm
          clear hxe
          simp only [] at c0 c1 hgz
          rw [hab] at p10
          have HAB := hid hab
          clear hab
          cases hd : (t == 0) with
          | true =>
            have HR1 : Hid (s2.req1 (f, t) = { s2 with mreq := true }) := hid (by unfold Fil.Src.req1; rw [if_pos (by rw [hd] at hgz; simpa using hgz.symm)])
            clear hS2 hgz hrw
            go_wp2_with (first | (refine wpList_cell HS2.out.swap (stabC (blkP_stable _ _) (stabC (ownW_stable _ _ _) HL.out)) rfl (.tmp 144) (.const (.bool true)) 4 rfl 15 (.bool true) rfl rfl szBool (show 15 < 20 by decide) rfl ?_; intro w3 hz; replace hz : Sts W (blkP q (.cells (({ s2 with mreq := true }).rcs (.slice da s1.data.length dc) wv2) 38 (0, 0)) :: blkP w.heap.size (.cells #[.int .i64 p.kind, .int .i64 p.src, .int .i64 p.num, .int .i64 p.cls, .string p.name, .int .i64 p.size, .int .i64 p.off, .slice p.da p.data.length p.dc, .int .u32 (p.sum : Nat), .int .i64 p.code, .slice p.ga p.gaps.length p.gc] 45 (0, 0)) :: ownW zh wv2 (s2).wanted :: l) w3 := hz; have H3 := hid hz; clear hz))
            go_roundw
            case rel => exact ⟨k2 + 1, wv2, by omega, by go_num, by rw [HT.out, HR1.out]; exact H3.out.swap⟩
            case measure => simp [intOf]; omega
          | false =>
            have HR1 : Hid (s2.req1 (f, t) = { s2 with wanted := Rng.ofV (s2.wanted ++ [(f, t)]) }) := hid (by unfold Fil.Src.req1; rw [if_neg (by rw [hd] at hgz; intro h; rw [h] at hgz; simp at hgz)])
            have HRW := hid hrw
            have hCC : Hid (∀ y, Sts W (blkP w.heap.size (.cells #[.int .i64 p.kind, .int .i64 p.src, .int .i64 p.num, .int .i64 p.cls, .string p.name, .int .i64 p.size, .int .i64 p.off, .slice p.da p.data.length p.dc, .int .u32 (p.sum : Nat), .int .i64 p.code, .slice p.ga p.gaps.length p.gc] 45 (0, 0)) :: blkP q (.cells ((s2).rcs (.slice da s1.data.length dc) wv2) 38 (0, 0)) :: ownW zh wv2 (s2).wanted :: l) y → RefC y q s2 (.slice da s1.data.length dc) wv2 ∧ y.cell? ⟨w.heap.size, 10, none⟩ = some (.slice (some ⟨b, off, none⟩) p.gaps.length p.gc) ∧ y.cell? ⟨b, off + k2 * 2, none⟩ = some (.int .i64 f) ∧ y.cell? ⟨b, off + k2 * 2 + 1, none⟩ = some (.int .i64 t)) := hid fun y hy => by
              obtain ⟨a', c', e', -, hx⟩ := HG.out _ y (Sts.shutRef (s := s2) (wv := wv2) hy.tail)
              have e9 := e'
              injection e9 with e1 e2 e3
              obtain ⟨b3, off3, hab3, hb3, g0, g1⟩ := hx k2 hlt2
              rw [← e1, HAB.out] at hab3
              injection hab3 with hab3
              injection hab3 with i1 i2
              subst i1
              subst i2
              have h10 := (Sts.boxCell hy 10 _ rfl).1
              rw [HAB.out] at h10
              rw [HXE.out] at g0 g1
              exact ⟨Sts.refC hy.tail, h10, g0, g1⟩
            have HWN := hid hwlen
            clear hS2 hgz hrw hgb
            go_wp2_with fail
            refine wp_region_ordS (fun i => i == 13) (.pure 0 (.pure 1 (.pure 2 (.pure 3 (.pure 4 (.pure 5 (.pure 6 (.pure 7 (.pure 8 (.pure 9 (.eff 10 (.pure 11 (.pure 12 (.eff 13 .nil)))))))))))))) (fun y => RefC y q s2 (.slice da s1.data.length dc) wv2 ∧ y.cell? ⟨w.heap.size, 10, none⟩ = some (.slice (some ⟨b, off, none⟩) p.gaps.length p.gc) ∧ y.cell? ⟨b, off + k2 * 2, none⟩ = some (.int .i64 f) ∧ y.cell? ⟨b, off + k2 * 2 + 1, none⟩ = some (.int .i64 t)) (fun y => Sts W (blkP w.heap.size (.cells #[.int .i64 p.kind, .int .i64 p.src, .int .i64 p.num, .int .i64 p.cls, .string p.name, .int .i64 p.size, .int .i64 p.off, .slice p.da p.data.length p.dc, .int .u32 (p.sum : Nat), .int .i64 p.code, .slice p.ga p.gaps.length p.gc] 45 (0, 0)) :: blkP q (.cells ((s2).rcs (.slice da s1.data.length dc) wv2) 38 (0, 0)) :: ownW zh wv2 (s2).wanted :: l) y) (by kernel_rfl) (by kernel_rfl) (HS2.out.drew (stabC (blkP_stable _ _) (stabC (blkP_stable _ _) (stabC (ownW_stable _ _ _) HL.out)))) (fun y hy => hCC.out y hy) ?_
            iterate 10
              (apply ord_pure (ho := rfl)
               · go_simp
               · intro x hx; obtain ⟨hC, h10, q0, q1⟩ := hx; have k18 := hC.k18; clear hC; go_simp; rfl
               apply ord_norm
               · go_simp; rfl)
            apply ord_eff (ho := rfl)
            · go_simp
            intro y hy
            refine eff_call (f := 45) (by go_simp) (cRefAdd y wv2 s2.wanted f t (HRW.out y hy) HWN.out) ?_
            rintro e w2 ⟨r, rfl, hN⟩
            have hs2 := Sts.newR (stabC (blkP_stable _ _) (stabC (blkP_stable _ _) (stabC (ownW_stable _ _ _) HL.out))) hy hN
            have HRE := hid hN.rd.eq
            refine ⟨_, rfl, (fun y => RefC y q s2 (.slice da s1.data.length dc) wv2 ∧ y.cell? ⟨w.heap.size, 10, none⟩ = some (.slice (some ⟨b, off, none⟩) p.gaps.length p.gc) ∧ y.cell? ⟨b, off + k2 * 2, none⟩ = some (.int .i64 f) ∧ y.cell? ⟨b, off + k2 * 2 + 1, none⟩ = some (.int .i64 t)), (fun y => Sts W (rowP 81 2 r (Rng.ofV (s2.wanted ++ [(f, t)])).length (Fil.rcells (Rng.ofV (s2.wanted ++ [(f, t)]))) :: blkP w.heap.size (.cells #[.int .i64 p.kind, .int .i64 p.src, .int .i64 p.num, .int .i64 p.cls, .string p.name, .int .i64 p.size, .int .i64 p.off, .slice p.da p.data.length p.dc, .int .u32 (p.sum : Nat), .int .i64 p.code, .slice p.ga p.gaps.length p.gc] 45 (0, 0)) :: blkP q (.cells ((s2).rcs (.slice da s1.data.length dc) wv2) 38 (0, 0)) :: ownW zh wv2 (s2).wanted :: l) y), hs2, (fun y hy => hCC.out y hy.tail), (fun _ h => h), ?_⟩
            clear hs2 hN hy y
            apply ord_norm
            · go_simp; rfl
            iterate 2
              (apply ord_pure (ho := rfl)
               · go_simp
               · intro x hx; obtain ⟨hC, h10, q0, q1⟩ := hx; have k18 := hC.k18; clear hC; go_simp; rfl
               apply ord_norm
               · go_simp; rfl)
            apply ord_eff (ho := rfl)
            · go_simp
            intro y hy
            have hp1 := (hy.perm (List.perm_middle (l₁ := [_, _, _]) (l₂ := l))).tail
            have hp2 := hp1.perm (List.perm_middle (l₁ := [_, _]) (l₂ := l))
            have k18 := (Sts.refC hp2).k18
            have f18 := (Sts.refC hp2).fr 18
            have hst := Sts.store (stabC (rowP_stable _ _ _ _ _) (stabC (blkP_stable _ _) HL.out)) hp2 (j := 18) r
            obtain ⟨ra, rc, hre⟩ := HRE.out
            refine effS_skip (fun _ => True) (fun y => Sts W (blkP q (.cells (({ s2 with wanted := Rng.ofV (s2.wanted ++ [(f, t)]) }).rcs (.slice da s1.data.length dc) r) 38 (0, 0)) :: rowP 81 2 r (Rng.ofV (s2.wanted ++ [(f, t)])).length (Fil.rcells (Rng.ofV (s2.wanted ++ [(f, t)]))) :: blkP w.heap.size (.cells #[.int .i64 p.kind, .int .i64 p.src, .int .i64 p.num, .int .i64 p.cls, .string p.name, .int .i64 p.size, .int .i64 p.off, .slice p.da p.data.length p.dc, .int .u32 (p.sum : Nat), .int .i64 p.code, .slice p.ga p.gaps.length p.gc] 45 (0, 0)) :: l) y) (w := y.setCell ⟨q, 18, none⟩ r) rfl ?_ hst (fun _ _ => trivial) ?_
            · clear hst hp1 hp2 hy HRE
              subst hre
              go_simp
            clear hst hp1 hp2 hy k18 f18 y hre HS2
            apply ord_norm
            · go_simp; rfl
            refine ord_nil fun z hz => ?_
            have HZ2 : Hid (Sts W (blkP w.heap.size (.cells #[.int .i64 p.kind, .int .i64 p.src, .int .i64 p.num, .int .i64 p.cls, .string p.name, .int .i64 p.size, .int .i64 p.off, .slice p.da p.data.length p.dc, .int .u32 (p.sum : Nat), .int .i64 p.code, .slice p.ga p.gaps.length p.gc] 45 (0, 0)) :: blkP q (.cells (({ s2 with wanted := Rng.ofV (s2.wanted ++ [(f, t)]) }).rcs (.slice da s1.data.length dc) r) 38 (0, 0)) :: ownW zh r ({ s2 with wanted := Rng.ofV (s2.wanted ++ [(f, t)]) }).wanted :: l) z) := hid (Sts.second ((hz.swap.weaken (B := ownW zh r (Rng.ofV (s2.wanted ++ [(f, t)]))) (fun F h => Or.inr h)).third))
            clear hz
            go_wp2_with fail
            go_roundw
            case rel => exact ⟨k2 + 1, r, by omega, by go_num, by rw [HT.out, HR1.out]; exact HZ2.out⟩
            case measure => simp [intOf]; omega
        · obtain rfl : k2 = p.gaps.length := by omega
          rw [List.take_length] at HS2
          clear hgb2 hrw hwlen hS2 hgb HGZ HOK
          obtain ⟨s2, hs2⟩ : ∃ s2, s2 = s1.reqGo p.gaps := ⟨_, rfl⟩
          rw [← hs2] at HS2
          have HSE := hid hs2
          clear hs2
          have hC := Sts.refC HS2.out.tail
          have k10 := hC.k10
          clear hC
          go_wp2_with (first | (refine wpList_cell HS2.out.swap (stabC (blkP_stable _ _) (stabC (ownW_stable _ _ _) HL.out)) rfl (.tmp 164) (.tmp 162) 3 rfl 11 (.int .i64 s2.now) rfl rfl szInt (show 11 < 20 by decide) rfl ?_; intro w3 hz; replace hz : Sts W (blkP q (.cells (({ s2 with timer := s2.now }).rcs (.slice da s1.data.length dc) wv2) 38 (0, 0)) :: blkP w.heap.size (.cells #[.int .i64 p.kind, .int .i64 p.src, .int .i64 p.num, .int .i64 p.cls, .string p.name, .int .i64 p.size, .int .i64 p.off, .slice p.da p.data.length p.dc, .int .u32 (p.sum : Nat), .int .i64 p.code, .slice p.ga p.gaps.length p.gc] 45 (0, 0)) :: ownW zh wv2 (s2).wanted :: l) w3 := hz; have H3 := hid hz; clear hz) | (refine wpList_cell H3.out (stabC (blkP_stable _ _) (stabC (ownW_stable _ _ _) HL.out)) rfl (.tmp 167) (.const (.int .i64 0)) 3 rfl 12 (.int .i64 0) rfl rfl szInt (show 12 < 20 by decide) rfl ?_; intro w4 hz; replace hz : Sts W (blkP q (.cells (({ s2 with timer := s2.now, tries := 0 }).rcs (.slice da s1.data.length dc) wv2) 38 (0, 0)) :: blkP w.heap.size (.cells #[.int .i64 p.kind, .int .i64 p.src, .int .i64 p.num, .int .i64 p.cls, .string p.name, .int .i64 p.size, .int .i64 p.off, .slice p.da p.data.length p.dc, .int .u32 (p.sum : Nat), .int .i64 p.code, .slice p.ga p.gaps.length p.gc] 45 (0, 0)) :: ownW zh wv2 (s2).wanted :: l) w4 := hz; have H4 := hid hz; clear hz))
          go_ret
          rw [← HSE.out]
          exact ⟨rfl, Sts.shutRef (s := { s2 with timer := s2.now, tries := 0 }) (wv := wv2) H4.out.swap.tail⟩
end
end Go.Proofs.Ytfjadhkhmhnccaa
