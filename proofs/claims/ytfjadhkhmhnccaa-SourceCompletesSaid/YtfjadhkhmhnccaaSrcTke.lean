/- The contracts of source.Take, branch by branch. -/
import Derived.Test.YtfjadhkhmhnccaaSrcReq
set_option linter.unusedVariables false
set_option linter.unusedSimpArgs false
namespace Fil
def fwdB (k : Int) : Bool := withinB k 1 3 || (k == 7)
end Fil
namespace Go.Proofs.Ytfjadhkhmhnccaa
open Go.RowKit Go.Proofs.Num
theorem cForward (w : World) (k : Int) : Calls Try.prog 68 #[.int .i64 k] w fun e w' => e = .returned (.bool (Fil.fwdB k)) ∧ w = w' := by
  have HW := hid (cWithin w k 1 3)
  cases hb : Fil.withinB k 1 3 with
  | true =>
    rw [hb] at HW
    have e : Fil.fwdB k = true := by unfold Fil.fwdB; rw [hb]; rfl
    rw [e]
    clear e hb
    go_enter Try.func68, Try.ntmps68
    go_wp2_with (first | (go_at_call 97; refine HW.out.mono ?_; rintro e w2 ⟨rfl, rfl⟩))
    go_ret
    exact ⟨rfl, rfl⟩
  | false =>
    rw [hb] at HW
    have e : Fil.fwdB k = (k == 7) := by unfold Fil.fwdB; rw [hb]; rfl
    rw [e]
    clear e hb
    go_enter Try.func68, Try.ntmps68
    go_wp2_with (first | (go_at_call 97; refine HW.out.mono ?_; rintro e w2 ⟨rfl, rfl⟩))
    go_ret
    exact ⟨rfl, rfl⟩
section
variable {W w : World} {l : List HProp} (hl : ∀ B ∈ l, Stable B) (q : Nat) (s s1 : Fil.Src) (hs : Sts W (srcP q s :: l) w) (now : Int) (hp1 : s.pass now = s1) (p : Fil.Pdu) (hname : p.name.size ≤ 1000000) (hdata : p.data.length < 1000000000) (hgl : p.gaps.length < 1000) (hg : ∀ A y, Sts W (A :: l) y → RdR y (.slice p.ga p.gaps.length p.gc) p.gaps)
include hl hs hp1 hname hdata hgl hg
set_option maxRecDepth 100000 in
set_option maxHeartbeats 2000000 in
theorem cTakeBad (hv : p.validB = false) : Calls Try.prog 25 #[.pointer (some ⟨q, 0, none⟩), .agg p.cells, .int .i64 now] w fun e w' => e = .returned (.int .i64 1) ∧ Sts W (srcP q s1 :: l) w' := by
  have HPC : p.cells = #[.int .i64 p.kind, .int .i64 p.src, .int .i64 p.num, .int .i64 p.cls, .string p.name, .int .i64 p.size, .int .i64 p.off, .slice p.da p.data.length p.dc, .int .u32 (p.sum : Nat), .int .i64 p.code, .slice p.ga p.gaps.length p.gc] := rfl
  rw [HPC]
  clear HPC
  have hls : ∀ B ∈ srcP q s :: l, Stable B := stabC (srcP_stable _ _) hl
  have hz := hs.alloc hls (.cells #[.int .i64 p.kind, .int .i64 p.src, .int .i64 p.num, .int .i64 p.cls, .string p.name, .int .i64 p.size, .int .i64 p.off, .slice p.da p.data.length p.dc, .int .u32 (p.sum : Nat), .int .i64 p.code, .slice p.ga p.gaps.length p.gc] 45)
  have hbl : ∀ B ∈ blkP w.heap.size (.cells #[.int .i64 p.kind, .int .i64 p.src, .int .i64 p.num, .int .i64 p.cls, .string p.name, .int .i64 p.size, .int .i64 p.off, .slice p.da p.data.length p.dc, .int .u32 (p.sum : Nat), .int .i64 p.code, .slice p.ga p.gaps.length p.gc] 45 (0, 0)) :: l, Stable B := stabC (blkP_stable _ _) hl
  have hP := cPass hbl q s hz.swap now
  rw [hp1] at hP
  have HP := hid hP
  obtain ⟨dv0, wv0, h0⟩ := Sts.openSrc hz.swap
  have k0 := (Sts.srcC h0).k0
  have HOK := hid (cOkS _ q k0)
  have HL := hid hl
  have HBL := hid hbl
  have HG := hid hg
  clear hP h0 hz hs hl hbl k0 hp1 hls hg
  go_enter Try.func25, Try.ntmps25
  go_wp2_with (first | (go_at_call 59; refine HOK.out.mono ?_; rintro e w2 ⟨rfl, rfl⟩) | (go_at_call 60; refine HP.out.mono ?_; rintro e w1 ⟨rfl, h1⟩; obtain ⟨dv, wv, h2⟩ := Sts.openSrc h1; have HB := hid (h2.perm (List.perm_middle (l₁ := [_, _, _]) (l₂ := l))); clear h1 h2))
  have HLB := hid (stabC (blkP_stable w.heap.size (.cells #[.int .i64 p.kind, .int .i64 p.src, .int .i64 p.num, .int .i64 p.cls, .string p.name, .int .i64 p.size, .int .i64 p.off, .slice p.da p.data.length p.dc, .int .u32 (p.sum : Nat), .int .i64 p.code, .slice p.ga p.gaps.length p.gc] 45 (0, 0))) (stabC (blkP_stable q (.cells (s1.cells dv wv) 64 (0, 0))) (stabC (rowP_stable 5 1 dv s1.data.length (u8s s1.data)) (stabC (rowP_stable 81 2 wv s1.wanted.length (Fil.rcells s1.wanted)) HL.out))))
  have hgb : ∀ y, Sts W (blkP w.heap.size (.cells #[.int .i64 p.kind, .int .i64 p.src, .int .i64 p.num, .int .i64 p.cls, .string p.name, .int .i64 p.size, .int .i64 p.off, .slice p.da p.data.length p.dc, .int .u32 (p.sum : Nat), .int .i64 p.code, .slice p.ga p.gaps.length p.gc] 45 (0, 0)) :: blkP q (.cells (s1.cells dv wv) 64 (0, 0)) :: rowP 5 1 dv s1.data.length (u8s s1.data) :: rowP 81 2 wv s1.wanted.length (Fil.rcells s1.wanted) :: l) y → RdR y (.slice p.ga p.gaps.length p.gc) p.gaps := fun y hy => HG.out _ y (Sts.shutSrc hy.tail)
  refine wp_region_ord (.pure 0 (.eff 1 (.pure 2 (.pure 3 (.pure 4 (.pure 5 (.pure 6 (.pure 7 (.pure 8 (.pure 9 (.pure 10 (.pure 11 (.pure 12 (.pure 13 (.pure 14 (.eff 15 (.pure 16 (.pure 17 .nil)))))))))))))))))) (fun y => SrcC y q s1 dv wv ∧ PduC y w.heap.size p) (fun y => Sts W (blkP w.heap.size (.cells #[.int .i64 p.kind, .int .i64 p.src, .int .i64 p.num, .int .i64 p.cls, .string p.name, .int .i64 p.size, .int .i64 p.off, .slice p.da p.data.length p.dc, .int .u32 (p.sum : Nat), .int .i64 p.code, .slice p.ga p.gaps.length p.gc] 45 (0, 0)) :: blkP q (.cells (s1.cells dv wv) 64 (0, 0)) :: rowP 5 1 dv s1.data.length (u8s s1.data) :: rowP 81 2 wv s1.wanted.length (Fil.rcells s1.wanted) :: l) y) (by kernel_rfl) (by kernel_rfl) (HB.out.drew HLB.out) (fun y hy => ⟨Sts.srcC hy.tail, ⟨(Sts.boxCell hy 0 _ rfl).1, (Sts.boxCell hy 1 _ rfl).1, (Sts.boxCell hy 2 _ rfl).1, (Sts.boxCell hy 3 _ rfl).1, (Sts.boxCell hy 4 _ rfl).1, (Sts.boxCell hy 5 _ rfl).1, (Sts.boxCell hy 6 _ rfl).1, (Sts.boxCell hy 7 _ rfl).1, (Sts.boxCell hy 8 _ rfl).1, (Sts.boxCell hy 9 _ rfl).1, (Sts.boxCell hy 10 _ rfl).1⟩⟩) ?_
  apply ord_pure (ho := rfl)
  · go_simp
  · intro x hx; obtain ⟨hC, hP⟩ := hx; have k1 := hC.k1; have k2 := hC.k2; have p0 := hP.c0; have p1 := hP.c1; have p2 := hP.c2; have p3 := hP.c3; have p4 := hP.c4; have p5 := hP.c5; have p6 := hP.c6; have p7 := hP.c7; have p8 := hP.c8; have p9 := hP.c9; have p10 := hP.c10; clear hC hP; go_simp; rfl
  apply ord_norm
  · go_simp; rfl
  apply ord_eff (ho := rfl)
  · go_simp
  intro y hy
  refine eff_call (f := 54) (by go_simp; rfl) (cValid y p hname hdata (by omega) (hgb y hy)) ?_
  rintro e w2 ⟨rfl, hb⟩
  refine ⟨_, rfl, (fun y => SrcC y q s1 dv wv ∧ PduC y w.heap.size p), (fun y => Sts W (blkP w.heap.size (.cells #[.int .i64 p.kind, .int .i64 p.src, .int .i64 p.num, .int .i64 p.cls, .string p.name, .int .i64 p.size, .int .i64 p.off, .slice p.da p.data.length p.dc, .int .u32 (p.sum : Nat), .int .i64 p.code, .slice p.ga p.gaps.length p.gc] 45 (0, 0)) :: blkP q (.cells (s1.cells dv wv) 64 (0, 0)) :: rowP 5 1 dv s1.data.length (u8s s1.data) :: rowP 81 2 wv s1.wanted.length (Fil.rcells s1.wanted) :: l) y), hy.quiet HLB.out hb, (fun y hy => ⟨Sts.srcC hy.tail, ⟨(Sts.boxCell hy 0 _ rfl).1, (Sts.boxCell hy 1 _ rfl).1, (Sts.boxCell hy 2 _ rfl).1, (Sts.boxCell hy 3 _ rfl).1, (Sts.boxCell hy 4 _ rfl).1, (Sts.boxCell hy 5 _ rfl).1, (Sts.boxCell hy 6 _ rfl).1, (Sts.boxCell hy 7 _ rfl).1, (Sts.boxCell hy 8 _ rfl).1, (Sts.boxCell hy 9 _ rfl).1, (Sts.boxCell hy 10 _ rfl).1⟩⟩), (fun _ h => h), ?_⟩
  rw [hv]
  clear hb hy y
  apply ord_norm
  · go_simp; rfl
  iterate 2
    (apply ord_pure (ho := rfl)
     · go_simp
     · intro x hx; obtain ⟨hC, hP⟩ := hx; have k1 := hC.k1; have k2 := hC.k2; have p0 := hP.c0; have p1 := hP.c1; have p2 := hP.c2; have p3 := hP.c3; have p4 := hP.c4; have p5 := hP.c5; have p6 := hP.c6; have p7 := hP.c7; have p8 := hP.c8; have p9 := hP.c9; have p10 := hP.c10; clear hC hP; go_simp; rfl
     apply ord_norm
     · go_simp; rfl)
  iterate 7
    (apply ord_skip (ho := rfl)
     · go_simp
     apply ord_norm
     · go_simp; rfl)
  iterate 2
    (apply ord_pure (ho := rfl)
     · go_simp
     · intro x hx; obtain ⟨hC, hP⟩ := hx; have k1 := hC.k1; have k2 := hC.k2; have p0 := hP.c0; have p1 := hP.c1; have p2 := hP.c2; have p3 := hP.c3; have p4 := hP.c4; have p5 := hP.c5; have p6 := hP.c6; have p7 := hP.c7; have p8 := hP.c8; have p9 := hP.c9; have p10 := hP.c10; clear hC hP; go_simp; rfl
     apply ord_norm
     · go_simp; rfl)
  iterate 2
    (apply ord_skip (ho := rfl)
     · go_simp
     apply ord_norm
     · go_simp; rfl)
  apply ord_eskip (ho := rfl)
  · go_simp
  apply ord_norm
  · go_simp; rfl
  iterate 2
    (apply ord_pure (ho := rfl)
     · go_simp
     · intro x hx; obtain ⟨hC, hP⟩ := hx; have k1 := hC.k1; have k2 := hC.k2; have p0 := hP.c0; have p1 := hP.c1; have p2 := hP.c2; have p3 := hP.c3; have p4 := hP.c4; have p5 := hP.c5; have p6 := hP.c6; have p7 := hP.c7; have p8 := hP.c8; have p9 := hP.c9; have p10 := hP.c10; clear hC hP; go_simp; rfl
     apply ord_norm
     · go_simp; rfl)
  refine ord_nil fun z hz => ?_
  have HZ := hid ((Sts.shutSrc hz.tail))
  clear hz HB
  go_wp2_with fail
  go_ret
  exact ⟨rfl, HZ.out⟩
set_option maxRecDepth 100000 in
set_option maxHeartbeats 2000000 in
theorem cTakeId (hv : p.validB = true) (hi : ((p.src == s1.src) && (p.num == s1.num)) = false) : Calls Try.prog 25 #[.pointer (some ⟨q, 0, none⟩), .agg p.cells, .int .i64 now] w fun e w' => e = .returned (.int .i64 1) ∧ Sts W (srcP q s1 :: l) w' := by
  have hi' : (p.src == s1.src) = false ∨ (p.src == s1.src) = true ∧ (p.num == s1.num) = false := by
    cases h : (p.src == s1.src)
    · exact Or.inl rfl
    · rw [h] at hi; exact Or.inr ⟨rfl, by simpa using hi⟩
  clear hi
  rcases hi' with i1 | ⟨i1, i2⟩
  all_goals
    have HPC : p.cells = #[.int .i64 p.kind, .int .i64 p.src, .int .i64 p.num, .int .i64 p.cls, .string p.name, .int .i64 p.size, .int .i64 p.off, .slice p.da p.data.length p.dc, .int .u32 (p.sum : Nat), .int .i64 p.code, .slice p.ga p.gaps.length p.gc] := rfl
    rw [HPC]
    clear HPC
    have hls : ∀ B ∈ srcP q s :: l, Stable B := stabC (srcP_stable _ _) hl
    have hz := hs.alloc hls (.cells #[.int .i64 p.kind, .int .i64 p.src, .int .i64 p.num, .int .i64 p.cls, .string p.name, .int .i64 p.size, .int .i64 p.off, .slice p.da p.data.length p.dc, .int .u32 (p.sum : Nat), .int .i64 p.code, .slice p.ga p.gaps.length p.gc] 45)
    have hbl : ∀ B ∈ blkP w.heap.size (.cells #[.int .i64 p.kind, .int .i64 p.src, .int .i64 p.num, .int .i64 p.cls, .string p.name, .int .i64 p.size, .int .i64 p.off, .slice p.da p.data.length p.dc, .int .u32 (p.sum : Nat), .int .i64 p.code, .slice p.ga p.gaps.length p.gc] 45 (0, 0)) :: l, Stable B := stabC (blkP_stable _ _) hl
    have hP := cPass hbl q s hz.swap now
    rw [hp1] at hP
    have HP := hid hP
    obtain ⟨dv0, wv0, h0⟩ := Sts.openSrc hz.swap
    have k0 := (Sts.srcC h0).k0
    have HOK := hid (cOkS _ q k0)
    have HL := hid hl
    have HBL := hid hbl
    have HG := hid hg
    clear hP h0 hz hs hl hbl k0 hp1 hls hg
    go_enter Try.func25, Try.ntmps25
    go_wp2_with (first | (go_at_call 59; refine HOK.out.mono ?_; rintro e w2 ⟨rfl, rfl⟩) | (go_at_call 60; refine HP.out.mono ?_; rintro e w1 ⟨rfl, h1⟩; obtain ⟨dv, wv, h2⟩ := Sts.openSrc h1; have HB := hid (h2.perm (List.perm_middle (l₁ := [_, _, _]) (l₂ := l))); clear h1 h2))
    have HLB := hid (stabC (blkP_stable w.heap.size (.cells #[.int .i64 p.kind, .int .i64 p.src, .int .i64 p.num, .int .i64 p.cls, .string p.name, .int .i64 p.size, .int .i64 p.off, .slice p.da p.data.length p.dc, .int .u32 (p.sum : Nat), .int .i64 p.code, .slice p.ga p.gaps.length p.gc] 45 (0, 0))) (stabC (blkP_stable q (.cells (s1.cells dv wv) 64 (0, 0))) (stabC (rowP_stable 5 1 dv s1.data.length (u8s s1.data)) (stabC (rowP_stable 81 2 wv s1.wanted.length (Fil.rcells s1.wanted)) HL.out))))
    have hgb : ∀ y, Sts W (blkP w.heap.size (.cells #[.int .i64 p.kind, .int .i64 p.src, .int .i64 p.num, .int .i64 p.cls, .string p.name, .int .i64 p.size, .int .i64 p.off, .slice p.da p.data.length p.dc, .int .u32 (p.sum : Nat), .int .i64 p.code, .slice p.ga p.gaps.length p.gc] 45 (0, 0)) :: blkP q (.cells (s1.cells dv wv) 64 (0, 0)) :: rowP 5 1 dv s1.data.length (u8s s1.data) :: rowP 81 2 wv s1.wanted.length (Fil.rcells s1.wanted) :: l) y → RdR y (.slice p.ga p.gaps.length p.gc) p.gaps := fun y hy => HG.out _ y (Sts.shutSrc hy.tail)
    refine wp_region_ord (.pure 0 (.eff 1 (.pure 2 (.pure 3 (.pure 4 (.pure 5 (.pure 6 (.pure 7 (.pure 8 (.pure 9 (.pure 10 (.pure 11 (.pure 12 (.pure 13 (.pure 14 (.eff 15 (.pure 16 (.pure 17 .nil)))))))))))))))))) (fun y => SrcC y q s1 dv wv ∧ PduC y w.heap.size p) (fun y => Sts W (blkP w.heap.size (.cells #[.int .i64 p.kind, .int .i64 p.src, .int .i64 p.num, .int .i64 p.cls, .string p.name, .int .i64 p.size, .int .i64 p.off, .slice p.da p.data.length p.dc, .int .u32 (p.sum : Nat), .int .i64 p.code, .slice p.ga p.gaps.length p.gc] 45 (0, 0)) :: blkP q (.cells (s1.cells dv wv) 64 (0, 0)) :: rowP 5 1 dv s1.data.length (u8s s1.data) :: rowP 81 2 wv s1.wanted.length (Fil.rcells s1.wanted) :: l) y) (by kernel_rfl) (by kernel_rfl) (HB.out.drew HLB.out) (fun y hy => ⟨Sts.srcC hy.tail, ⟨(Sts.boxCell hy 0 _ rfl).1, (Sts.boxCell hy 1 _ rfl).1, (Sts.boxCell hy 2 _ rfl).1, (Sts.boxCell hy 3 _ rfl).1, (Sts.boxCell hy 4 _ rfl).1, (Sts.boxCell hy 5 _ rfl).1, (Sts.boxCell hy 6 _ rfl).1, (Sts.boxCell hy 7 _ rfl).1, (Sts.boxCell hy 8 _ rfl).1, (Sts.boxCell hy 9 _ rfl).1, (Sts.boxCell hy 10 _ rfl).1⟩⟩) ?_
    apply ord_pure (ho := rfl)
    · go_simp
    · intro x hx; obtain ⟨hC, hP⟩ := hx; have k1 := hC.k1; have k2 := hC.k2; have p0 := hP.c0; have p1 := hP.c1; have p2 := hP.c2; have p3 := hP.c3; have p4 := hP.c4; have p5 := hP.c5; have p6 := hP.c6; have p7 := hP.c7; have p8 := hP.c8; have p9 := hP.c9; have p10 := hP.c10; clear hC hP; go_simp; rfl
    apply ord_norm
    · go_simp; rfl
    apply ord_eff (ho := rfl)
    · go_simp
    intro y hy
    refine eff_call (f := 54) (by go_simp; rfl) (cValid y p hname hdata (by omega) (hgb y hy)) ?_
    rintro e w2 ⟨rfl, hb⟩
    refine ⟨_, rfl, (fun y => SrcC y q s1 dv wv ∧ PduC y w.heap.size p), (fun y => Sts W (blkP w.heap.size (.cells #[.int .i64 p.kind, .int .i64 p.src, .int .i64 p.num, .int .i64 p.cls, .string p.name, .int .i64 p.size, .int .i64 p.off, .slice p.da p.data.length p.dc, .int .u32 (p.sum : Nat), .int .i64 p.code, .slice p.ga p.gaps.length p.gc] 45 (0, 0)) :: blkP q (.cells (s1.cells dv wv) 64 (0, 0)) :: rowP 5 1 dv s1.data.length (u8s s1.data) :: rowP 81 2 wv s1.wanted.length (Fil.rcells s1.wanted) :: l) y), hy.quiet HLB.out hb, (fun y hy => ⟨Sts.srcC hy.tail, ⟨(Sts.boxCell hy 0 _ rfl).1, (Sts.boxCell hy 1 _ rfl).1, (Sts.boxCell hy 2 _ rfl).1, (Sts.boxCell hy 3 _ rfl).1, (Sts.boxCell hy 4 _ rfl).1, (Sts.boxCell hy 5 _ rfl).1, (Sts.boxCell hy 6 _ rfl).1, (Sts.boxCell hy 7 _ rfl).1, (Sts.boxCell hy 8 _ rfl).1, (Sts.boxCell hy 9 _ rfl).1, (Sts.boxCell hy 10 _ rfl).1⟩⟩), (fun _ h => h), ?_⟩
    rw [hv]
    clear hb hy y
    apply ord_norm
    · go_simp; rfl
    iterate 2
      (apply ord_pure (ho := rfl)
       · go_simp
       · intro x hx; obtain ⟨hC, hP⟩ := hx; have k1 := hC.k1; have k2 := hC.k2; have p0 := hP.c0; have p1 := hP.c1; have p2 := hP.c2; have p3 := hP.c3; have p4 := hP.c4; have p5 := hP.c5; have p6 := hP.c6; have p7 := hP.c7; have p8 := hP.c8; have p9 := hP.c9; have p10 := hP.c10; clear hC hP; go_simp; rfl
       apply ord_norm
       · go_simp; rfl)
    iterate 7
      (apply ord_pure (ho := rfl)
       · go_simp
       · intro x hx; obtain ⟨hC, hP⟩ := hx; have k1 := hC.k1; have k2 := hC.k2; have p0 := hP.c0; have p1 := hP.c1; have p2 := hP.c2; have p3 := hP.c3; have p4 := hP.c4; have p5 := hP.c5; have p6 := hP.c6; have p7 := hP.c7; have p8 := hP.c8; have p9 := hP.c9; have p10 := hP.c10; clear hC hP; go_simp; rfl
       apply ord_norm
       · go_simp; rfl)
    iterate 2
      (apply ord_pure (ho := rfl)
       · go_simp
       · intro x hx; obtain ⟨hC, hP⟩ := hx; have k1 := hC.k1; have k2 := hC.k2; have p0 := hP.c0; have p1 := hP.c1; have p2 := hP.c2; have p3 := hP.c3; have p4 := hP.c4; have p5 := hP.c5; have p6 := hP.c6; have p7 := hP.c7; have p8 := hP.c8; have p9 := hP.c9; have p10 := hP.c10; clear hC hP; go_simp; rfl
       apply ord_norm
       · go_simp; rfl)
    iterate 2
      (apply ord_skip (ho := rfl)
       · go_simp
       apply ord_norm
       · go_simp; rfl)
    apply ord_eskip (ho := rfl)
    · go_simp
    apply ord_norm
    · go_simp; rfl
    iterate 2
      (apply ord_pure (ho := rfl)
       · go_simp
       · intro x hx; obtain ⟨hC, hP⟩ := hx; have k1 := hC.k1; have k2 := hC.k2; have p0 := hP.c0; have p1 := hP.c1; have p2 := hP.c2; have p3 := hP.c3; have p4 := hP.c4; have p5 := hP.c5; have p6 := hP.c6; have p7 := hP.c7; have p8 := hP.c8; have p9 := hP.c9; have p10 := hP.c10; clear hC hP; go_simp; rfl
       apply ord_norm
       · go_simp; rfl)
    refine ord_nil fun z hz => ?_
    have HZ := hid ((Sts.shutSrc hz.tail))
    clear hz HB
    go_wp2_with fail
    go_ret
    exact ⟨rfl, HZ.out⟩
set_option maxRecDepth 100000 in
set_option maxHeartbeats 2000000 in
theorem cTakeFwd (hv : p.validB = true) (i1 : (p.src == s1.src) = true) (i2 : (p.num == s1.num) = true) (hf : Fil.fwdB p.kind = true) : Calls Try.prog 25 #[.pointer (some ⟨q, 0, none⟩), .agg p.cells, .int .i64 now] w fun e w' => e = .returned (.int .i64 1) ∧ Sts W (srcP q s1 :: l) w' := by
  have HPC : p.cells = #[.int .i64 p.kind, .int .i64 p.src, .int .i64 p.num, .int .i64 p.cls, .string p.name, .int .i64 p.size, .int .i64 p.off, .slice p.da p.data.length p.dc, .int .u32 (p.sum : Nat), .int .i64 p.code, .slice p.ga p.gaps.length p.gc] := rfl
  rw [HPC]
  clear HPC
  have hls : ∀ B ∈ srcP q s :: l, Stable B := stabC (srcP_stable _ _) hl
  have hz := hs.alloc hls (.cells #[.int .i64 p.kind, .int .i64 p.src, .int .i64 p.num, .int .i64 p.cls, .string p.name, .int .i64 p.size, .int .i64 p.off, .slice p.da p.data.length p.dc, .int .u32 (p.sum : Nat), .int .i64 p.code, .slice p.ga p.gaps.length p.gc] 45)
  have hbl : ∀ B ∈ blkP w.heap.size (.cells #[.int .i64 p.kind, .int .i64 p.src, .int .i64 p.num, .int .i64 p.cls, .string p.name, .int .i64 p.size, .int .i64 p.off, .slice p.da p.data.length p.dc, .int .u32 (p.sum : Nat), .int .i64 p.code, .slice p.ga p.gaps.length p.gc] 45 (0, 0)) :: l, Stable B := stabC (blkP_stable _ _) hl
  have hP := cPass hbl q s hz.swap now
  rw [hp1] at hP
  have HP := hid hP
  obtain ⟨dv0, wv0, h0⟩ := Sts.openSrc hz.swap
  have k0 := (Sts.srcC h0).k0
  have HOK := hid (cOkS _ q k0)
  have HL := hid hl
  have HBL := hid hbl
  have HG := hid hg
  clear hP h0 hz hs hl hbl k0 hp1 hls hg
  go_enter Try.func25, Try.ntmps25
  go_wp2_with (first | (go_at_call 59; refine HOK.out.mono ?_; rintro e w2 ⟨rfl, rfl⟩) | (go_at_call 60; refine HP.out.mono ?_; rintro e w1 ⟨rfl, h1⟩; obtain ⟨dv, wv, h2⟩ := Sts.openSrc h1; have HB := hid (h2.perm (List.perm_middle (l₁ := [_, _, _]) (l₂ := l))); clear h1 h2))
  have HLB := hid (stabC (blkP_stable w.heap.size (.cells #[.int .i64 p.kind, .int .i64 p.src, .int .i64 p.num, .int .i64 p.cls, .string p.name, .int .i64 p.size, .int .i64 p.off, .slice p.da p.data.length p.dc, .int .u32 (p.sum : Nat), .int .i64 p.code, .slice p.ga p.gaps.length p.gc] 45 (0, 0))) (stabC (blkP_stable q (.cells (s1.cells dv wv) 64 (0, 0))) (stabC (rowP_stable 5 1 dv s1.data.length (u8s s1.data)) (stabC (rowP_stable 81 2 wv s1.wanted.length (Fil.rcells s1.wanted)) HL.out))))
  have hgb : ∀ y, Sts W (blkP w.heap.size (.cells #[.int .i64 p.kind, .int .i64 p.src, .int .i64 p.num, .int .i64 p.cls, .string p.name, .int .i64 p.size, .int .i64 p.off, .slice p.da p.data.length p.dc, .int .u32 (p.sum : Nat), .int .i64 p.code, .slice p.ga p.gaps.length p.gc] 45 (0, 0)) :: blkP q (.cells (s1.cells dv wv) 64 (0, 0)) :: rowP 5 1 dv s1.data.length (u8s s1.data) :: rowP 81 2 wv s1.wanted.length (Fil.rcells s1.wanted) :: l) y → RdR y (.slice p.ga p.gaps.length p.gc) p.gaps := fun y hy => HG.out _ y (Sts.shutSrc hy.tail)
  refine wp_region_ord (.pure 0 (.eff 1 (.pure 2 (.pure 3 (.pure 4 (.pure 5 (.pure 6 (.pure 7 (.pure 8 (.pure 9 (.pure 10 (.pure 11 (.pure 12 (.pure 13 (.pure 14 (.eff 15 (.pure 16 (.pure 17 .nil)))))))))))))))))) (fun y => SrcC y q s1 dv wv ∧ PduC y w.heap.size p) (fun y => Sts W (blkP w.heap.size (.cells #[.int .i64 p.kind, .int .i64 p.src, .int .i64 p.num, .int .i64 p.cls, .string p.name, .int .i64 p.size, .int .i64 p.off, .slice p.da p.data.length p.dc, .int .u32 (p.sum : Nat), .int .i64 p.code, .slice p.ga p.gaps.length p.gc] 45 (0, 0)) :: blkP q (.cells (s1.cells dv wv) 64 (0, 0)) :: rowP 5 1 dv s1.data.length (u8s s1.data) :: rowP 81 2 wv s1.wanted.length (Fil.rcells s1.wanted) :: l) y) (by kernel_rfl) (by kernel_rfl) (HB.out.drew HLB.out) (fun y hy => ⟨Sts.srcC hy.tail, ⟨(Sts.boxCell hy 0 _ rfl).1, (Sts.boxCell hy 1 _ rfl).1, (Sts.boxCell hy 2 _ rfl).1, (Sts.boxCell hy 3 _ rfl).1, (Sts.boxCell hy 4 _ rfl).1, (Sts.boxCell hy 5 _ rfl).1, (Sts.boxCell hy 6 _ rfl).1, (Sts.boxCell hy 7 _ rfl).1, (Sts.boxCell hy 8 _ rfl).1, (Sts.boxCell hy 9 _ rfl).1, (Sts.boxCell hy 10 _ rfl).1⟩⟩) ?_
  apply ord_pure (ho := rfl)
  · go_simp
  · intro x hx; obtain ⟨hC, hP⟩ := hx; have k1 := hC.k1; have k2 := hC.k2; have p0 := hP.c0; have p1 := hP.c1; have p2 := hP.c2; have p3 := hP.c3; have p4 := hP.c4; have p5 := hP.c5; have p6 := hP.c6; have p7 := hP.c7; have p8 := hP.c8; have p9 := hP.c9; have p10 := hP.c10; clear hC hP; go_simp; rfl
  apply ord_norm
  · go_simp; rfl
  apply ord_eff (ho := rfl)
  · go_simp
  intro y hy
  refine eff_call (f := 54) (by go_simp; rfl) (cValid y p hname hdata (by omega) (hgb y hy)) ?_
  rintro e w2 ⟨rfl, hb⟩
  refine ⟨_, rfl, (fun y => SrcC y q s1 dv wv ∧ PduC y w.heap.size p), (fun y => Sts W (blkP w.heap.size (.cells #[.int .i64 p.kind, .int .i64 p.src, .int .i64 p.num, .int .i64 p.cls, .string p.name, .int .i64 p.size, .int .i64 p.off, .slice p.da p.data.length p.dc, .int .u32 (p.sum : Nat), .int .i64 p.code, .slice p.ga p.gaps.length p.gc] 45 (0, 0)) :: blkP q (.cells (s1.cells dv wv) 64 (0, 0)) :: rowP 5 1 dv s1.data.length (u8s s1.data) :: rowP 81 2 wv s1.wanted.length (Fil.rcells s1.wanted) :: l) y), hy.quiet HLB.out hb, (fun y hy => ⟨Sts.srcC hy.tail, ⟨(Sts.boxCell hy 0 _ rfl).1, (Sts.boxCell hy 1 _ rfl).1, (Sts.boxCell hy 2 _ rfl).1, (Sts.boxCell hy 3 _ rfl).1, (Sts.boxCell hy 4 _ rfl).1, (Sts.boxCell hy 5 _ rfl).1, (Sts.boxCell hy 6 _ rfl).1, (Sts.boxCell hy 7 _ rfl).1, (Sts.boxCell hy 8 _ rfl).1, (Sts.boxCell hy 9 _ rfl).1, (Sts.boxCell hy 10 _ rfl).1⟩⟩), (fun _ h => h), ?_⟩
  rw [hv]
  clear hb hy y
  apply ord_norm
  · go_simp; rfl
  iterate 2
    (apply ord_pure (ho := rfl)
     · go_simp
     · intro x hx; obtain ⟨hC, hP⟩ := hx; have k1 := hC.k1; have k2 := hC.k2; have p0 := hP.c0; have p1 := hP.c1; have p2 := hP.c2; have p3 := hP.c3; have p4 := hP.c4; have p5 := hP.c5; have p6 := hP.c6; have p7 := hP.c7; have p8 := hP.c8; have p9 := hP.c9; have p10 := hP.c10; clear hC hP; go_simp; rfl
     apply ord_norm
     · go_simp; rfl)
  iterate 7
    (apply ord_pure (ho := rfl)
     · go_simp
     · intro x hx; obtain ⟨hC, hP⟩ := hx; have k1 := hC.k1; have k2 := hC.k2; have p0 := hP.c0; have p1 := hP.c1; have p2 := hP.c2; have p3 := hP.c3; have p4 := hP.c4; have p5 := hP.c5; have p6 := hP.c6; have p7 := hP.c7; have p8 := hP.c8; have p9 := hP.c9; have p10 := hP.c10; clear hC hP; go_simp; rfl
     apply ord_norm
     · go_simp; rfl)
  iterate 2
    (apply ord_pure (ho := rfl)
     · go_simp
     · intro x hx; obtain ⟨hC, hP⟩ := hx; have k1 := hC.k1; have k2 := hC.k2; have p0 := hP.c0; have p1 := hP.c1; have p2 := hP.c2; have p3 := hP.c3; have p4 := hP.c4; have p5 := hP.c5; have p6 := hP.c6; have p7 := hP.c7; have p8 := hP.c8; have p9 := hP.c9; have p10 := hP.c10; clear hC hP; go_simp; rfl
     apply ord_norm
     · go_simp; rfl)
  iterate 2
    (apply ord_pure (ho := rfl)
     · go_simp
     · intro x hx; obtain ⟨hC, hP⟩ := hx; have k1 := hC.k1; have k2 := hC.k2; have p0 := hP.c0; have p1 := hP.c1; have p2 := hP.c2; have p3 := hP.c3; have p4 := hP.c4; have p5 := hP.c5; have p6 := hP.c6; have p7 := hP.c7; have p8 := hP.c8; have p9 := hP.c9; have p10 := hP.c10; clear hC hP; go_simp; rfl
     apply ord_norm
     · go_simp; rfl)
  apply ord_eff (ho := rfl)
  · go_simp
  intro y hy
  refine eff_call (f := 68) (by go_simp) (cForward y p.kind) ?_
  rintro e w2 ⟨rfl, rfl⟩
  refine ⟨_, rfl, (fun y => SrcC y q s1 dv wv ∧ PduC y w.heap.size p), (fun y => Sts W (blkP w.heap.size (.cells #[.int .i64 p.kind, .int .i64 p.src, .int .i64 p.num, .int .i64 p.cls, .string p.name, .int .i64 p.size, .int .i64 p.off, .slice p.da p.data.length p.dc, .int .u32 (p.sum : Nat), .int .i64 p.code, .slice p.ga p.gaps.length p.gc] 45 (0, 0)) :: blkP q (.cells (s1.cells dv wv) 64 (0, 0)) :: rowP 5 1 dv s1.data.length (u8s s1.data) :: rowP 81 2 wv s1.wanted.length (Fil.rcells s1.wanted) :: l) y), hy, (fun y hy => ⟨Sts.srcC hy.tail, ⟨(Sts.boxCell hy 0 _ rfl).1, (Sts.boxCell hy 1 _ rfl).1, (Sts.boxCell hy 2 _ rfl).1, (Sts.boxCell hy 3 _ rfl).1, (Sts.boxCell hy 4 _ rfl).1, (Sts.boxCell hy 5 _ rfl).1, (Sts.boxCell hy 6 _ rfl).1, (Sts.boxCell hy 7 _ rfl).1, (Sts.boxCell hy 8 _ rfl).1, (Sts.boxCell hy 9 _ rfl).1, (Sts.boxCell hy 10 _ rfl).1⟩⟩), (fun _ h => h), ?_⟩
  rw [hf]
  clear hy y
  apply ord_norm
  · go_simp; rfl
  iterate 2
    (apply ord_pure (ho := rfl)
     · go_simp
     · intro x hx; obtain ⟨hC, hP⟩ := hx; have k1 := hC.k1; have k2 := hC.k2; have p0 := hP.c0; have p1 := hP.c1; have p2 := hP.c2; have p3 := hP.c3; have p4 := hP.c4; have p5 := hP.c5; have p6 := hP.c6; have p7 := hP.c7; have p8 := hP.c8; have p9 := hP.c9; have p10 := hP.c10; clear hC hP; go_simp; rfl
     apply ord_norm
     · go_simp; rfl)
  refine ord_nil fun z hz => ?_
  have HZ := hid ((Sts.shutSrc hz.tail))
  clear hz HB
  go_wp2_with fail
  go_ret
  exact ⟨rfl, HZ.out⟩
set_option maxRecDepth 100000 in
set_option maxHeartbeats 2000000 in
theorem cTakeState (hv : p.validB = true) (i1 : (p.src == s1.src) = true) (i2 : (p.num == s1.num) = true) (hf : Fil.fwdB p.kind = false) (hc : (s1.cls != 2) = true) : Calls Try.prog 25 #[.pointer (some ⟨q, 0, none⟩), .agg p.cells, .int .i64 now] w fun e w' => e = .returned (.int .i64 12) ∧ Sts W (srcP q s1 :: l) w' := by
  have HPC : p.cells = #[.int .i64 p.kind, .int .i64 p.src, .int .i64 p.num, .int .i64 p.cls, .string p.name, .int .i64 p.size, .int .i64 p.off, .slice p.da p.data.length p.dc, .int .u32 (p.sum : Nat), .int .i64 p.code, .slice p.ga p.gaps.length p.gc] := rfl
  rw [HPC]
  clear HPC
  have hls : ∀ B ∈ srcP q s :: l, Stable B := stabC (srcP_stable _ _) hl
  have hz := hs.alloc hls (.cells #[.int .i64 p.kind, .int .i64 p.src, .int .i64 p.num, .int .i64 p.cls, .string p.name, .int .i64 p.size, .int .i64 p.off, .slice p.da p.data.length p.dc, .int .u32 (p.sum : Nat), .int .i64 p.code, .slice p.ga p.gaps.length p.gc] 45)
  have hbl : ∀ B ∈ blkP w.heap.size (.cells #[.int .i64 p.kind, .int .i64 p.src, .int .i64 p.num, .int .i64 p.cls, .string p.name, .int .i64 p.size, .int .i64 p.off, .slice p.da p.data.length p.dc, .int .u32 (p.sum : Nat), .int .i64 p.code, .slice p.ga p.gaps.length p.gc] 45 (0, 0)) :: l, Stable B := stabC (blkP_stable _ _) hl
  have hP := cPass hbl q s hz.swap now
  rw [hp1] at hP
  have HP := hid hP
  obtain ⟨dv0, wv0, h0⟩ := Sts.openSrc hz.swap
  have k0 := (Sts.srcC h0).k0
  have HOK := hid (cOkS _ q k0)
  have HL := hid hl
  have HBL := hid hbl
  have HG := hid hg
  clear hP h0 hz hs hl hbl k0 hp1 hls hg
  go_enter Try.func25, Try.ntmps25
  go_wp2_with (first | (go_at_call 59; refine HOK.out.mono ?_; rintro e w2 ⟨rfl, rfl⟩) | (go_at_call 60; refine HP.out.mono ?_; rintro e w1 ⟨rfl, h1⟩; obtain ⟨dv, wv, h2⟩ := Sts.openSrc h1; have HB := hid (h2.perm (List.perm_middle (l₁ := [_, _, _]) (l₂ := l))); clear h1 h2))
  have HLB := hid (stabC (blkP_stable w.heap.size (.cells #[.int .i64 p.kind, .int .i64 p.src, .int .i64 p.num, .int .i64 p.cls, .string p.name, .int .i64 p.size, .int .i64 p.off, .slice p.da p.data.length p.dc, .int .u32 (p.sum : Nat), .int .i64 p.code, .slice p.ga p.gaps.length p.gc] 45 (0, 0))) (stabC (blkP_stable q (.cells (s1.cells dv wv) 64 (0, 0))) (stabC (rowP_stable 5 1 dv s1.data.length (u8s s1.data)) (stabC (rowP_stable 81 2 wv s1.wanted.length (Fil.rcells s1.wanted)) HL.out))))
  have hgb : ∀ y, Sts W (blkP w.heap.size (.cells #[.int .i64 p.kind, .int .i64 p.src, .int .i64 p.num, .int .i64 p.cls, .string p.name, .int .i64 p.size, .int .i64 p.off, .slice p.da p.data.length p.dc, .int .u32 (p.sum : Nat), .int .i64 p.code, .slice p.ga p.gaps.length p.gc] 45 (0, 0)) :: blkP q (.cells (s1.cells dv wv) 64 (0, 0)) :: rowP 5 1 dv s1.data.length (u8s s1.data) :: rowP 81 2 wv s1.wanted.length (Fil.rcells s1.wanted) :: l) y → RdR y (.slice p.ga p.gaps.length p.gc) p.gaps := fun y hy => HG.out _ y (Sts.shutSrc hy.tail)
  refine wp_region_ord (.pure 0 (.eff 1 (.pure 2 (.pure 3 (.pure 4 (.pure 5 (.pure 6 (.pure 7 (.pure 8 (.pure 9 (.pure 10 (.pure 11 (.pure 12 (.pure 13 (.pure 14 (.eff 15 (.pure 16 (.pure 17 .nil)))))))))))))))))) (fun y => SrcC y q s1 dv wv ∧ PduC y w.heap.size p) (fun y => Sts W (blkP w.heap.size (.cells #[.int .i64 p.kind, .int .i64 p.src, .int .i64 p.num, .int .i64 p.cls, .string p.name, .int .i64 p.size, .int .i64 p.off, .slice p.da p.data.length p.dc, .int .u32 (p.sum : Nat), .int .i64 p.code, .slice p.ga p.gaps.length p.gc] 45 (0, 0)) :: blkP q (.cells (s1.cells dv wv) 64 (0, 0)) :: rowP 5 1 dv s1.data.length (u8s s1.data) :: rowP 81 2 wv s1.wanted.length (Fil.rcells s1.wanted) :: l) y) (by kernel_rfl) (by kernel_rfl) (HB.out.drew HLB.out) (fun y hy => ⟨Sts.srcC hy.tail, ⟨(Sts.boxCell hy 0 _ rfl).1, (Sts.boxCell hy 1 _ rfl).1, (Sts.boxCell hy 2 _ rfl).1, (Sts.boxCell hy 3 _ rfl).1, (Sts.boxCell hy 4 _ rfl).1, (Sts.boxCell hy 5 _ rfl).1, (Sts.boxCell hy 6 _ rfl).1, (Sts.boxCell hy 7 _ rfl).1, (Sts.boxCell hy 8 _ rfl).1, (Sts.boxCell hy 9 _ rfl).1, (Sts.boxCell hy 10 _ rfl).1⟩⟩) ?_
  apply ord_pure (ho := rfl)
  · go_simp
  · intro x hx; obtain ⟨hC, hP⟩ := hx; have k1 := hC.k1; have k2 := hC.k2; have p0 := hP.c0; have p1 := hP.c1; have p2 := hP.c2; have p3 := hP.c3; have p4 := hP.c4; have p5 := hP.c5; have p6 := hP.c6; have p7 := hP.c7; have p8 := hP.c8; have p9 := hP.c9; have p10 := hP.c10; clear hC hP; go_simp; rfl
  apply ord_norm
  · go_simp; rfl
  apply ord_eff (ho := rfl)
  · go_simp
  intro y hy
  refine eff_call (f := 54) (by go_simp; rfl) (cValid y p hname hdata (by omega) (hgb y hy)) ?_
  rintro e w2 ⟨rfl, hb⟩
  refine ⟨_, rfl, (fun y => SrcC y q s1 dv wv ∧ PduC y w.heap.size p), (fun y => Sts W (blkP w.heap.size (.cells #[.int .i64 p.kind, .int .i64 p.src, .int .i64 p.num, .int .i64 p.cls, .string p.name, .int .i64 p.size, .int .i64 p.off, .slice p.da p.data.length p.dc, .int .u32 (p.sum : Nat), .int .i64 p.code, .slice p.ga p.gaps.length p.gc] 45 (0, 0)) :: blkP q (.cells (s1.cells dv wv) 64 (0, 0)) :: rowP 5 1 dv s1.data.length (u8s s1.data) :: rowP 81 2 wv s1.wanted.length (Fil.rcells s1.wanted) :: l) y), hy.quiet HLB.out hb, (fun y hy => ⟨Sts.srcC hy.tail, ⟨(Sts.boxCell hy 0 _ rfl).1, (Sts.boxCell hy 1 _ rfl).1, (Sts.boxCell hy 2 _ rfl).1, (Sts.boxCell hy 3 _ rfl).1, (Sts.boxCell hy 4 _ rfl).1, (Sts.boxCell hy 5 _ rfl).1, (Sts.boxCell hy 6 _ rfl).1, (Sts.boxCell hy 7 _ rfl).1, (Sts.boxCell hy 8 _ rfl).1, (Sts.boxCell hy 9 _ rfl).1, (Sts.boxCell hy 10 _ rfl).1⟩⟩), (fun _ h => h), ?_⟩
  rw [hv]
  clear hb hy y
  apply ord_norm
  · go_simp; rfl
  iterate 2
    (apply ord_pure (ho := rfl)
     · go_simp
     · intro x hx; obtain ⟨hC, hP⟩ := hx; have k1 := hC.k1; have k2 := hC.k2; have p0 := hP.c0; have p1 := hP.c1; have p2 := hP.c2; have p3 := hP.c3; have p4 := hP.c4; have p5 := hP.c5; have p6 := hP.c6; have p7 := hP.c7; have p8 := hP.c8; have p9 := hP.c9; have p10 := hP.c10; clear hC hP; go_simp; rfl
     apply ord_norm
     · go_simp; rfl)
  iterate 7
    (apply ord_pure (ho := rfl)
     · go_simp
     · intro x hx; obtain ⟨hC, hP⟩ := hx; have k1 := hC.k1; have k2 := hC.k2; have p0 := hP.c0; have p1 := hP.c1; have p2 := hP.c2; have p3 := hP.c3; have p4 := hP.c4; have p5 := hP.c5; have p6 := hP.c6; have p7 := hP.c7; have p8 := hP.c8; have p9 := hP.c9; have p10 := hP.c10; clear hC hP; go_simp; rfl
     apply ord_norm
     · go_simp; rfl)
  iterate 2
    (apply ord_pure (ho := rfl)
     · go_simp
     · intro x hx; obtain ⟨hC, hP⟩ := hx; have k1 := hC.k1; have k2 := hC.k2; have p0 := hP.c0; have p1 := hP.c1; have p2 := hP.c2; have p3 := hP.c3; have p4 := hP.c4; have p5 := hP.c5; have p6 := hP.c6; have p7 := hP.c7; have p8 := hP.c8; have p9 := hP.c9; have p10 := hP.c10; clear hC hP; go_simp; rfl
     apply ord_norm
     · go_simp; rfl)
  iterate 2
    (apply ord_pure (ho := rfl)
     · go_simp
     · intro x hx; obtain ⟨hC, hP⟩ := hx; have k1 := hC.k1; have k2 := hC.k2; have p0 := hP.c0; have p1 := hP.c1; have p2 := hP.c2; have p3 := hP.c3; have p4 := hP.c4; have p5 := hP.c5; have p6 := hP.c6; have p7 := hP.c7; have p8 := hP.c8; have p9 := hP.c9; have p10 := hP.c10; clear hC hP; go_simp; rfl
     apply ord_norm
     · go_simp; rfl)
  apply ord_eff (ho := rfl)
  · go_simp
  intro y hy
  refine eff_call (f := 68) (by go_simp) (cForward y p.kind) ?_
  rintro e w2 ⟨rfl, rfl⟩
  refine ⟨_, rfl, (fun y => SrcC y q s1 dv wv ∧ PduC y w.heap.size p), (fun y => Sts W (blkP w.heap.size (.cells #[.int .i64 p.kind, .int .i64 p.src, .int .i64 p.num, .int .i64 p.cls, .string p.name, .int .i64 p.size, .int .i64 p.off, .slice p.da p.data.length p.dc, .int .u32 (p.sum : Nat), .int .i64 p.code, .slice p.ga p.gaps.length p.gc] 45 (0, 0)) :: blkP q (.cells (s1.cells dv wv) 64 (0, 0)) :: rowP 5 1 dv s1.data.length (u8s s1.data) :: rowP 81 2 wv s1.wanted.length (Fil.rcells s1.wanted) :: l) y), hy, (fun y hy => ⟨Sts.srcC hy.tail, ⟨(Sts.boxCell hy 0 _ rfl).1, (Sts.boxCell hy 1 _ rfl).1, (Sts.boxCell hy 2 _ rfl).1, (Sts.boxCell hy 3 _ rfl).1, (Sts.boxCell hy 4 _ rfl).1, (Sts.boxCell hy 5 _ rfl).1, (Sts.boxCell hy 6 _ rfl).1, (Sts.boxCell hy 7 _ rfl).1, (Sts.boxCell hy 8 _ rfl).1, (Sts.boxCell hy 9 _ rfl).1, (Sts.boxCell hy 10 _ rfl).1⟩⟩), (fun _ h => h), ?_⟩
  rw [hf]
  clear hy y
  apply ord_norm
  · go_simp; rfl
  iterate 2
    (apply ord_pure (ho := rfl)
     · go_simp
     · intro x hx; obtain ⟨hC, hP⟩ := hx; have k1 := hC.k1; have k2 := hC.k2; have p0 := hP.c0; have p1 := hP.c1; have p2 := hP.c2; have p3 := hP.c3; have p4 := hP.c4; have p5 := hP.c5; have p6 := hP.c6; have p7 := hP.c7; have p8 := hP.c8; have p9 := hP.c9; have p10 := hP.c10; clear hC hP; go_simp; rfl
     apply ord_norm
     · go_simp; rfl)
  refine ord_nil fun z hz => ?_
  have k3 := (Sts.srcC hz.tail).k3
  have p0 := (Sts.boxCell hz 0 _ rfl).1
  have p9 := (Sts.boxCell hz 9 _ rfl).1
  have p10 := (Sts.boxCell hz 10 _ rfl).1
  have HZ := hid ((Sts.shutSrc hz.tail))
  clear hz HB
  go_wp2_with fail
  go_ret
  exact ⟨rfl, HZ.out⟩
set_option maxRecDepth 100000 in
set_option maxHeartbeats 2000000 in
theorem cTakeAck0 (hv : p.validB = true) (i1 : (p.src == s1.src) = true) (i2 : (p.num == s1.num) = true) (hf : Fil.fwdB p.kind = false) (hc : s1.cls = 2) (hk : p.kind = 6) (c1 : s1.phase = 0) : Calls Try.prog 25 #[.pointer (some ⟨q, 0, none⟩), .agg p.cells, .int .i64 now] w fun e w' => e = .returned (.int .i64 12) ∧ Sts W (srcP q s1 :: l) w' := by
  have HK := hid hk
  clear hk
  have HPC : p.cells = #[.int .i64 p.kind, .int .i64 p.src, .int .i64 p.num, .int .i64 p.cls, .string p.name, .int .i64 p.size, .int .i64 p.off, .slice p.da p.data.length p.dc, .int .u32 (p.sum : Nat), .int .i64 p.code, .slice p.ga p.gaps.length p.gc] := rfl
  rw [HPC]
  clear HPC
  have hls : ∀ B ∈ srcP q s :: l, Stable B := stabC (srcP_stable _ _) hl
  have hz := hs.alloc hls (.cells #[.int .i64 p.kind, .int .i64 p.src, .int .i64 p.num, .int .i64 p.cls, .string p.name, .int .i64 p.size, .int .i64 p.off, .slice p.da p.data.length p.dc, .int .u32 (p.sum : Nat), .int .i64 p.code, .slice p.ga p.gaps.length p.gc] 45)
  have hbl : ∀ B ∈ blkP w.heap.size (.cells #[.int .i64 p.kind, .int .i64 p.src, .int .i64 p.num, .int .i64 p.cls, .string p.name, .int .i64 p.size, .int .i64 p.off, .slice p.da p.data.length p.dc, .int .u32 (p.sum : Nat), .int .i64 p.code, .slice p.ga p.gaps.length p.gc] 45 (0, 0)) :: l, Stable B := stabC (blkP_stable _ _) hl
  have hP := cPass hbl q s hz.swap now
  rw [hp1] at hP
  have HP := hid hP
  obtain ⟨dv0, wv0, h0⟩ := Sts.openSrc hz.swap
  have k0 := (Sts.srcC h0).k0
  have HOK := hid (cOkS _ q k0)
  have HL := hid hl
  have HBL := hid hbl
  have HG := hid hg
  clear hP h0 hz hs hl hbl k0 hp1 hls hg
  go_enter Try.func25, Try.ntmps25
  go_wp2_with (first | (go_at_call 59; refine HOK.out.mono ?_; rintro e w2 ⟨rfl, rfl⟩) | (go_at_call 60; refine HP.out.mono ?_; rintro e w1 ⟨rfl, h1⟩; obtain ⟨dv, wv, h2⟩ := Sts.openSrc h1; have HB := hid (h2.perm (List.perm_middle (l₁ := [_, _, _]) (l₂ := l))); clear h1 h2))
  have HLB := hid (stabC (blkP_stable w.heap.size (.cells #[.int .i64 p.kind, .int .i64 p.src, .int .i64 p.num, .int .i64 p.cls, .string p.name, .int .i64 p.size, .int .i64 p.off, .slice p.da p.data.length p.dc, .int .u32 (p.sum : Nat), .int .i64 p.code, .slice p.ga p.gaps.length p.gc] 45 (0, 0))) (stabC (blkP_stable q (.cells (s1.cells dv wv) 64 (0, 0))) (stabC (rowP_stable 5 1 dv s1.data.length (u8s s1.data)) (stabC (rowP_stable 81 2 wv s1.wanted.length (Fil.rcells s1.wanted)) HL.out))))
  have hgb : ∀ y, Sts W (blkP w.heap.size (.cells #[.int .i64 p.kind, .int .i64 p.src, .int .i64 p.num, .int .i64 p.cls, .string p.name, .int .i64 p.size, .int .i64 p.off, .slice p.da p.data.length p.dc, .int .u32 (p.sum : Nat), .int .i64 p.code, .slice p.ga p.gaps.length p.gc] 45 (0, 0)) :: blkP q (.cells (s1.cells dv wv) 64 (0, 0)) :: rowP 5 1 dv s1.data.length (u8s s1.data) :: rowP 81 2 wv s1.wanted.length (Fil.rcells s1.wanted) :: l) y → RdR y (.slice p.ga p.gaps.length p.gc) p.gaps := fun y hy => HG.out _ y (Sts.shutSrc hy.tail)
  refine wp_region_ord (.pure 0 (.eff 1 (.pure 2 (.pure 3 (.pure 4 (.pure 5 (.pure 6 (.pure 7 (.pure 8 (.pure 9 (.pure 10 (.pure 11 (.pure 12 (.pure 13 (.pure 14 (.eff 15 (.pure 16 (.pure 17 .nil)))))))))))))))))) (fun y => SrcC y q s1 dv wv ∧ PduC y w.heap.size p) (fun y => Sts W (blkP w.heap.size (.cells #[.int .i64 p.kind, .int .i64 p.src, .int .i64 p.num, .int .i64 p.cls, .string p.name, .int .i64 p.size, .int .i64 p.off, .slice p.da p.data.length p.dc, .int .u32 (p.sum : Nat), .int .i64 p.code, .slice p.ga p.gaps.length p.gc] 45 (0, 0)) :: blkP q (.cells (s1.cells dv wv) 64 (0, 0)) :: rowP 5 1 dv s1.data.length (u8s s1.data) :: rowP 81 2 wv s1.wanted.length (Fil.rcells s1.wanted) :: l) y) (by kernel_rfl) (by kernel_rfl) (HB.out.drew HLB.out) (fun y hy => ⟨Sts.srcC hy.tail, ⟨(Sts.boxCell hy 0 _ rfl).1, (Sts.boxCell hy 1 _ rfl).1, (Sts.boxCell hy 2 _ rfl).1, (Sts.boxCell hy 3 _ rfl).1, (Sts.boxCell hy 4 _ rfl).1, (Sts.boxCell hy 5 _ rfl).1, (Sts.boxCell hy 6 _ rfl).1, (Sts.boxCell hy 7 _ rfl).1, (Sts.boxCell hy 8 _ rfl).1, (Sts.boxCell hy 9 _ rfl).1, (Sts.boxCell hy 10 _ rfl).1⟩⟩) ?_
  apply ord_pure (ho := rfl)
  · go_simp
  · intro x hx; obtain ⟨hC, hP⟩ := hx; have k1 := hC.k1; have k2 := hC.k2; have p0 := hP.c0; have p1 := hP.c1; have p2 := hP.c2; have p3 := hP.c3; have p4 := hP.c4; have p5 := hP.c5; have p6 := hP.c6; have p7 := hP.c7; have p8 := hP.c8; have p9 := hP.c9; have p10 := hP.c10; clear hC hP; go_simp; rfl
  apply ord_norm
  · go_simp; rfl
  apply ord_eff (ho := rfl)
  · go_simp
  intro y hy
  refine eff_call (f := 54) (by go_simp; rfl) (cValid y p hname hdata (by omega) (hgb y hy)) ?_
  rintro e w2 ⟨rfl, hb⟩
  refine ⟨_, rfl, (fun y => SrcC y q s1 dv wv ∧ PduC y w.heap.size p), (fun y => Sts W (blkP w.heap.size (.cells #[.int .i64 p.kind, .int .i64 p.src, .int .i64 p.num, .int .i64 p.cls, .string p.name, .int .i64 p.size, .int .i64 p.off, .slice p.da p.data.length p.dc, .int .u32 (p.sum : Nat), .int .i64 p.code, .slice p.ga p.gaps.length p.gc] 45 (0, 0)) :: blkP q (.cells (s1.cells dv wv) 64 (0, 0)) :: rowP 5 1 dv s1.data.length (u8s s1.data) :: rowP 81 2 wv s1.wanted.length (Fil.rcells s1.wanted) :: l) y), hy.quiet HLB.out hb, (fun y hy => ⟨Sts.srcC hy.tail, ⟨(Sts.boxCell hy 0 _ rfl).1, (Sts.boxCell hy 1 _ rfl).1, (Sts.boxCell hy 2 _ rfl).1, (Sts.boxCell hy 3 _ rfl).1, (Sts.boxCell hy 4 _ rfl).1, (Sts.boxCell hy 5 _ rfl).1, (Sts.boxCell hy 6 _ rfl).1, (Sts.boxCell hy 7 _ rfl).1, (Sts.boxCell hy 8 _ rfl).1, (Sts.boxCell hy 9 _ rfl).1, (Sts.boxCell hy 10 _ rfl).1⟩⟩), (fun _ h => h), ?_⟩
  rw [hv]
  clear hb hy y
  apply ord_norm
  · go_simp; rfl
  iterate 2
    (apply ord_pure (ho := rfl)
     · go_simp
     · intro x hx; obtain ⟨hC, hP⟩ := hx; have k1 := hC.k1; have k2 := hC.k2; have p0 := hP.c0; have p1 := hP.c1; have p2 := hP.c2; have p3 := hP.c3; have p4 := hP.c4; have p5 := hP.c5; have p6 := hP.c6; have p7 := hP.c7; have p8 := hP.c8; have p9 := hP.c9; have p10 := hP.c10; clear hC hP; go_simp; rfl
     apply ord_norm
     · go_simp; rfl)
  iterate 7
    (apply ord_pure (ho := rfl)
     · go_simp
     · intro x hx; obtain ⟨hC, hP⟩ := hx; have k1 := hC.k1; have k2 := hC.k2; have p0 := hP.c0; have p1 := hP.c1; have p2 := hP.c2; have p3 := hP.c3; have p4 := hP.c4; have p5 := hP.c5; have p6 := hP.c6; have p7 := hP.c7; have p8 := hP.c8; have p9 := hP.c9; have p10 := hP.c10; clear hC hP; go_simp; rfl
     apply ord_norm
     · go_simp; rfl)
  iterate 2
    (apply ord_pure (ho := rfl)
     · go_simp
     · intro x hx; obtain ⟨hC, hP⟩ := hx; have k1 := hC.k1; have k2 := hC.k2; have p0 := hP.c0; have p1 := hP.c1; have p2 := hP.c2; have p3 := hP.c3; have p4 := hP.c4; have p5 := hP.c5; have p6 := hP.c6; have p7 := hP.c7; have p8 := hP.c8; have p9 := hP.c9; have p10 := hP.c10; clear hC hP; go_simp; rfl
     apply ord_norm
     · go_simp; rfl)
  iterate 2
    (apply ord_pure (ho := rfl)
     · go_simp
     · intro x hx; obtain ⟨hC, hP⟩ := hx; have k1 := hC.k1; have k2 := hC.k2; have p0 := hP.c0; have p1 := hP.c1; have p2 := hP.c2; have p3 := hP.c3; have p4 := hP.c4; have p5 := hP.c5; have p6 := hP.c6; have p7 := hP.c7; have p8 := hP.c8; have p9 := hP.c9; have p10 := hP.c10; clear hC hP; go_simp; rfl
     apply ord_norm
     · go_simp; rfl)
  apply ord_eff (ho := rfl)
  · go_simp
  intro y hy
  refine eff_call (f := 68) (by go_simp) (cForward y p.kind) ?_
  rintro e w2 ⟨rfl, rfl⟩
  refine ⟨_, rfl, (fun y => SrcC y q s1 dv wv ∧ PduC y w.heap.size p), (fun y => Sts W (blkP w.heap.size (.cells #[.int .i64 p.kind, .int .i64 p.src, .int .i64 p.num, .int .i64 p.cls, .string p.name, .int .i64 p.size, .int .i64 p.off, .slice p.da p.data.length p.dc, .int .u32 (p.sum : Nat), .int .i64 p.code, .slice p.ga p.gaps.length p.gc] 45 (0, 0)) :: blkP q (.cells (s1.cells dv wv) 64 (0, 0)) :: rowP 5 1 dv s1.data.length (u8s s1.data) :: rowP 81 2 wv s1.wanted.length (Fil.rcells s1.wanted) :: l) y), hy, (fun y hy => ⟨Sts.srcC hy.tail, ⟨(Sts.boxCell hy 0 _ rfl).1, (Sts.boxCell hy 1 _ rfl).1, (Sts.boxCell hy 2 _ rfl).1, (Sts.boxCell hy 3 _ rfl).1, (Sts.boxCell hy 4 _ rfl).1, (Sts.boxCell hy 5 _ rfl).1, (Sts.boxCell hy 6 _ rfl).1, (Sts.boxCell hy 7 _ rfl).1, (Sts.boxCell hy 8 _ rfl).1, (Sts.boxCell hy 9 _ rfl).1, (Sts.boxCell hy 10 _ rfl).1⟩⟩), (fun _ h => h), ?_⟩
  rw [hf]
  clear hy y
  apply ord_norm
  · go_simp; rfl
  iterate 2
    (apply ord_pure (ho := rfl)
     · go_simp
     · intro x hx; obtain ⟨hC, hP⟩ := hx; have k1 := hC.k1; have k2 := hC.k2; have p0 := hP.c0; have p1 := hP.c1; have p2 := hP.c2; have p3 := hP.c3; have p4 := hP.c4; have p5 := hP.c5; have p6 := hP.c6; have p7 := hP.c7; have p8 := hP.c8; have p9 := hP.c9; have p10 := hP.c10; clear hC hP; go_simp; rfl
     apply ord_norm
     · go_simp; rfl)
  refine ord_nil fun z hz => ?_
  have k3 := (Sts.srcC hz.tail).k3
  have p0 := (Sts.boxCell hz 0 _ rfl).1
  have p9 := (Sts.boxCell hz 9 _ rfl).1
  have p10 := (Sts.boxCell hz 10 _ rfl).1
  have HZ := hid ((Sts.shutSrc (hz.perm (List.perm_middle (l₁ := [_, _, _]) (l₂ := l)).symm)))
  clear hz HB
  rw [hc] at k3
  rw [HK.out] at p0
  go_wp2_with (first | (go_at_call 69; refine (cAck0 HBL.out q s1 HZ.out c1).mono ?_; rintro e w2 ⟨rfl, h2⟩; have HF := hid h2.swap.tail; clear h2))
  go_ret
  exact ⟨rfl, HF.out⟩
set_option maxRecDepth 100000 in
set_option maxHeartbeats 2000000 in
theorem cTakeAck1 (hv : p.validB = true) (i1 : (p.src == s1.src) = true) (i2 : (p.num == s1.num) = true) (hf : Fil.fwdB p.kind = false) (hc : s1.cls = 2) (hk : p.kind = 6) (c1 : s1.phase = 1) : Calls Try.prog 25 #[.pointer (some ⟨q, 0, none⟩), .agg p.cells, .int .i64 now] w fun e w' => e = .returned (.int .i64 0) ∧ Sts W (srcP q { s1 with acked := true } :: l) w' := by
  have HK := hid hk
  clear hk
  have HPC : p.cells = #[.int .i64 p.kind, .int .i64 p.src, .int .i64 p.num, .int .i64 p.cls, .string p.name, .int .i64 p.size, .int .i64 p.off, .slice p.da p.data.length p.dc, .int .u32 (p.sum : Nat), .int .i64 p.code, .slice p.ga p.gaps.length p.gc] := rfl
  rw [HPC]
  clear HPC
  have hls : ∀ B ∈ srcP q s :: l, Stable B := stabC (srcP_stable _ _) hl
  have hz := hs.alloc hls (.cells #[.int .i64 p.kind, .int .i64 p.src, .int .i64 p.num, .int .i64 p.cls, .string p.name, .int .i64 p.size, .int .i64 p.off, .slice p.da p.data.length p.dc, .int .u32 (p.sum : Nat), .int .i64 p.code, .slice p.ga p.gaps.length p.gc] 45)
  have hbl : ∀ B ∈ blkP w.heap.size (.cells #[.int .i64 p.kind, .int .i64 p.src, .int .i64 p.num, .int .i64 p.cls, .string p.name, .int .i64 p.size, .int .i64 p.off, .slice p.da p.data.length p.dc, .int .u32 (p.sum : Nat), .int .i64 p.code, .slice p.ga p.gaps.length p.gc] 45 (0, 0)) :: l, Stable B := stabC (blkP_stable _ _) hl
  have hP := cPass hbl q s hz.swap now
  rw [hp1] at hP
  have HP := hid hP
  obtain ⟨dv0, wv0, h0⟩ := Sts.openSrc hz.swap
  have k0 := (Sts.srcC h0).k0
  have HOK := hid (cOkS _ q k0)
  have HL := hid hl
  have HBL := hid hbl
  have HG := hid hg
  clear hP h0 hz hs hl hbl k0 hp1 hls hg
  go_enter Try.func25, Try.ntmps25
  go_wp2_with (first | (go_at_call 59; refine HOK.out.mono ?_; rintro e w2 ⟨rfl, rfl⟩) | (go_at_call 60; refine HP.out.mono ?_; rintro e w1 ⟨rfl, h1⟩; obtain ⟨dv, wv, h2⟩ := Sts.openSrc h1; have HB := hid (h2.perm (List.perm_middle (l₁ := [_, _, _]) (l₂ := l))); clear h1 h2))
  have HLB := hid (stabC (blkP_stable w.heap.size (.cells #[.int .i64 p.kind, .int .i64 p.src, .int .i64 p.num, .int .i64 p.cls, .string p.name, .int .i64 p.size, .int .i64 p.off, .slice p.da p.data.length p.dc, .int .u32 (p.sum : Nat), .int .i64 p.code, .slice p.ga p.gaps.length p.gc] 45 (0, 0))) (stabC (blkP_stable q (.cells (s1.cells dv wv) 64 (0, 0))) (stabC (rowP_stable 5 1 dv s1.data.length (u8s s1.data)) (stabC (rowP_stable 81 2 wv s1.wanted.length (Fil.rcells s1.wanted)) HL.out))))
  have hgb : ∀ y, Sts W (blkP w.heap.size (.cells #[.int .i64 p.kind, .int .i64 p.src, .int .i64 p.num, .int .i64 p.cls, .string p.name, .int .i64 p.size, .int .i64 p.off, .slice p.da p.data.length p.dc, .int .u32 (p.sum : Nat), .int .i64 p.code, .slice p.ga p.gaps.length p.gc] 45 (0, 0)) :: blkP q (.cells (s1.cells dv wv) 64 (0, 0)) :: rowP 5 1 dv s1.data.length (u8s s1.data) :: rowP 81 2 wv s1.wanted.length (Fil.rcells s1.wanted) :: l) y → RdR y (.slice p.ga p.gaps.length p.gc) p.gaps := fun y hy => HG.out _ y (Sts.shutSrc hy.tail)
  refine wp_region_ord (.pure 0 (.eff 1 (.pure 2 (.pure 3 (.pure 4 (.pure 5 (.pure 6 (.pure 7 (.pure 8 (.pure 9 (.pure 10 (.pure 11 (.pure 12 (.pure 13 (.pure 14 (.eff 15 (.pure 16 (.pure 17 .nil)))))))))))))))))) (fun y => SrcC y q s1 dv wv ∧ PduC y w.heap.size p) (fun y => Sts W (blkP w.heap.size (.cells #[.int .i64 p.kind, .int .i64 p.src, .int .i64 p.num, .int .i64 p.cls, .string p.name, .int .i64 p.size, .int .i64 p.off, .slice p.da p.data.length p.dc, .int .u32 (p.sum : Nat), .int .i64 p.code, .slice p.ga p.gaps.length p.gc] 45 (0, 0)) :: blkP q (.cells (s1.cells dv wv) 64 (0, 0)) :: rowP 5 1 dv s1.data.length (u8s s1.data) :: rowP 81 2 wv s1.wanted.length (Fil.rcells s1.wanted) :: l) y) (by kernel_rfl) (by kernel_rfl) (HB.out.drew HLB.out) (fun y hy => ⟨Sts.srcC hy.tail, ⟨(Sts.boxCell hy 0 _ rfl).1, (Sts.boxCell hy 1 _ rfl).1, (Sts.boxCell hy 2 _ rfl).1, (Sts.boxCell hy 3 _ rfl).1, (Sts.boxCell hy 4 _ rfl).1, (Sts.boxCell hy 5 _ rfl).1, (Sts.boxCell hy 6 _ rfl).1, (Sts.boxCell hy 7 _ rfl).1, (Sts.boxCell hy 8 _ rfl).1, (Sts.boxCell hy 9 _ rfl).1, (Sts.boxCell hy 10 _ rfl).1⟩⟩) ?_
  apply ord_pure (ho := rfl)
  · go_simp
  · intro x hx; obtain ⟨hC, hP⟩ := hx; have k1 := hC.k1; have k2 := hC.k2; have p0 := hP.c0; have p1 := hP.c1; have p2 := hP.c2; have p3 := hP.c3; have p4 := hP.c4; have p5 := hP.c5; have p6 := hP.c6; have p7 := hP.c7; have p8 := hP.c8; have p9 := hP.c9; have p10 := hP.c10; clear hC hP; go_simp; rfl
  apply ord_norm
  · go_simp; rfl
  apply ord_eff (ho := rfl)
  · go_simp
  intro y hy
  refine eff_call (f := 54) (by go_simp; rfl) (cValid y p hname hdata (by omega) (hgb y hy)) ?_
  rintro e w2 ⟨rfl, hb⟩
  refine ⟨_, rfl, (fun y => SrcC y q s1 dv wv ∧ PduC y w.heap.size p), (fun y => Sts W (blkP w.heap.size (.cells #[.int .i64 p.kind, .int .i64 p.src, .int .i64 p.num, .int .i64 p.cls, .string p.name, .int .i64 p.size, .int .i64 p.off, .slice p.da p.data.length p.dc, .int .u32 (p.sum : Nat), .int .i64 p.code, .slice p.ga p.gaps.length p.gc] 45 (0, 0)) :: blkP q (.cells (s1.cells dv wv) 64 (0, 0)) :: rowP 5 1 dv s1.data.length (u8s s1.data) :: rowP 81 2 wv s1.wanted.length (Fil.rcells s1.wanted) :: l) y), hy.quiet HLB.out hb, (fun y hy => ⟨Sts.srcC hy.tail, ⟨(Sts.boxCell hy 0 _ rfl).1, (Sts.boxCell hy 1 _ rfl).1, (Sts.boxCell hy 2 _ rfl).1, (Sts.boxCell hy 3 _ rfl).1, (Sts.boxCell hy 4 _ rfl).1, (Sts.boxCell hy 5 _ rfl).1, (Sts.boxCell hy 6 _ rfl).1, (Sts.boxCell hy 7 _ rfl).1, (Sts.boxCell hy 8 _ rfl).1, (Sts.boxCell hy 9 _ rfl).1, (Sts.boxCell hy 10 _ rfl).1⟩⟩), (fun _ h => h), ?_⟩
  rw [hv]
  clear hb hy y
  apply ord_norm
  · go_simp; rfl
  iterate 2
    (apply ord_pure (ho := rfl)
     · go_simp
     · intro x hx; obtain ⟨hC, hP⟩ := hx; have k1 := hC.k1; have k2 := hC.k2; have p0 := hP.c0; have p1 := hP.c1; have p2 := hP.c2; have p3 := hP.c3; have p4 := hP.c4; have p5 := hP.c5; have p6 := hP.c6; have p7 := hP.c7; have p8 := hP.c8; have p9 := hP.c9; have p10 := hP.c10; clear hC hP; go_simp; rfl
     apply ord_norm
     · go_simp; rfl)
  iterate 7
    (apply ord_pure (ho := rfl)
     · go_simp
     · intro x hx; obtain ⟨hC, hP⟩ := hx; have k1 := hC.k1; have k2 := hC.k2; have p0 := hP.c0; have p1 := hP.c1; have p2 := hP.c2; have p3 := hP.c3; have p4 := hP.c4; have p5 := hP.c5; have p6 := hP.c6; have p7 := hP.c7; have p8 := hP.c8; have p9 := hP.c9; have p10 := hP.c10; clear hC hP; go_simp; rfl
     apply ord_norm
     · go_simp; rfl)
  iterate 2
    (apply ord_pure (ho := rfl)
     · go_simp
     · intro x hx; obtain ⟨hC, hP⟩ := hx; have k1 := hC.k1; have k2 := hC.k2; have p0 := hP.c0; have p1 := hP.c1; have p2 := hP.c2; have p3 := hP.c3; have p4 := hP.c4; have p5 := hP.c5; have p6 := hP.c6; have p7 := hP.c7; have p8 := hP.c8; have p9 := hP.c9; have p10 := hP.c10; clear hC hP; go_simp; rfl
     apply ord_norm
     · go_simp; rfl)
  iterate 2
    (apply ord_pure (ho := rfl)
     · go_simp
     · intro x hx; obtain ⟨hC, hP⟩ := hx; have k1 := hC.k1; have k2 := hC.k2; have p0 := hP.c0; have p1 := hP.c1; have p2 := hP.c2; have p3 := hP.c3; have p4 := hP.c4; have p5 := hP.c5; have p6 := hP.c6; have p7 := hP.c7; have p8 := hP.c8; have p9 := hP.c9; have p10 := hP.c10; clear hC hP; go_simp; rfl
     apply ord_norm
     · go_simp; rfl)
  apply ord_eff (ho := rfl)
  · go_simp
  intro y hy
  refine eff_call (f := 68) (by go_simp) (cForward y p.kind) ?_
  rintro e w2 ⟨rfl, rfl⟩
  refine ⟨_, rfl, (fun y => SrcC y q s1 dv wv ∧ PduC y w.heap.size p), (fun y => Sts W (blkP w.heap.size (.cells #[.int .i64 p.kind, .int .i64 p.src, .int .i64 p.num, .int .i64 p.cls, .string p.name, .int .i64 p.size, .int .i64 p.off, .slice p.da p.data.length p.dc, .int .u32 (p.sum : Nat), .int .i64 p.code, .slice p.ga p.gaps.length p.gc] 45 (0, 0)) :: blkP q (.cells (s1.cells dv wv) 64 (0, 0)) :: rowP 5 1 dv s1.data.length (u8s s1.data) :: rowP 81 2 wv s1.wanted.length (Fil.rcells s1.wanted) :: l) y), hy, (fun y hy => ⟨Sts.srcC hy.tail, ⟨(Sts.boxCell hy 0 _ rfl).1, (Sts.boxCell hy 1 _ rfl).1, (Sts.boxCell hy 2 _ rfl).1, (Sts.boxCell hy 3 _ rfl).1, (Sts.boxCell hy 4 _ rfl).1, (Sts.boxCell hy 5 _ rfl).1, (Sts.boxCell hy 6 _ rfl).1, (Sts.boxCell hy 7 _ rfl).1, (Sts.boxCell hy 8 _ rfl).1, (Sts.boxCell hy 9 _ rfl).1, (Sts.boxCell hy 10 _ rfl).1⟩⟩), (fun _ h => h), ?_⟩
  rw [hf]
  clear hy y
  apply ord_norm
  · go_simp; rfl
  iterate 2
    (apply ord_pure (ho := rfl)
     · go_simp
     · intro x hx; obtain ⟨hC, hP⟩ := hx; have k1 := hC.k1; have k2 := hC.k2; have p0 := hP.c0; have p1 := hP.c1; have p2 := hP.c2; have p3 := hP.c3; have p4 := hP.c4; have p5 := hP.c5; have p6 := hP.c6; have p7 := hP.c7; have p8 := hP.c8; have p9 := hP.c9; have p10 := hP.c10; clear hC hP; go_simp; rfl
     apply ord_norm
     · go_simp; rfl)
  refine ord_nil fun z hz => ?_
  have k3 := (Sts.srcC hz.tail).k3
  have p0 := (Sts.boxCell hz 0 _ rfl).1
  have p9 := (Sts.boxCell hz 9 _ rfl).1
  have p10 := (Sts.boxCell hz 10 _ rfl).1
  have HZ := hid ((Sts.shutSrc (hz.perm (List.perm_middle (l₁ := [_, _, _]) (l₂ := l)).symm)))
  clear hz HB
  rw [hc] at k3
  rw [HK.out] at p0
  go_wp2_with (first | (go_at_call 69; refine (cAck1 HBL.out q s1 HZ.out c1).mono ?_; rintro e w2 ⟨rfl, h2⟩; have HF := hid h2.swap.tail; clear h2))
  go_ret
  exact ⟨rfl, HF.out⟩
set_option maxRecDepth 100000 in
set_option maxHeartbeats 2000000 in
theorem cTakeAck2 (hv : p.validB = true) (i1 : (p.src == s1.src) = true) (i2 : (p.num == s1.num) = true) (hf : Fil.fwdB p.kind = false) (hc : s1.cls = 2) (hk : p.kind = 6) (c1 : (s1.phase == 0) = false) (c2 : (s1.phase == 1) = false) : Calls Try.prog 25 #[.pointer (some ⟨q, 0, none⟩), .agg p.cells, .int .i64 now] w fun e w' => e = .returned (.int .i64 0) ∧ Sts W (srcP q s1 :: l) w' := by
  have HK := hid hk
  clear hk
  have HPC : p.cells = #[.int .i64 p.kind, .int .i64 p.src, .int .i64 p.num, .int .i64 p.cls, .string p.name, .int .i64 p.size, .int .i64 p.off, .slice p.da p.data.length p.dc, .int .u32 (p.sum : Nat), .int .i64 p.code, .slice p.ga p.gaps.length p.gc] := rfl
  rw [HPC]
  clear HPC
  have hls : ∀ B ∈ srcP q s :: l, Stable B := stabC (srcP_stable _ _) hl
  have hz := hs.alloc hls (.cells #[.int .i64 p.kind, .int .i64 p.src, .int .i64 p.num, .int .i64 p.cls, .string p.name, .int .i64 p.size, .int .i64 p.off, .slice p.da p.data.length p.dc, .int .u32 (p.sum : Nat), .int .i64 p.code, .slice p.ga p.gaps.length p.gc] 45)
  have hbl : ∀ B ∈ blkP w.heap.size (.cells #[.int .i64 p.kind, .int .i64 p.src, .int .i64 p.num, .int .i64 p.cls, .string p.name, .int .i64 p.size, .int .i64 p.off, .slice p.da p.data.length p.dc, .int .u32 (p.sum : Nat), .int .i64 p.code, .slice p.ga p.gaps.length p.gc] 45 (0, 0)) :: l, Stable B := stabC (blkP_stable _ _) hl
  have hP := cPass hbl q s hz.swap now
  rw [hp1] at hP
  have HP := hid hP
  obtain ⟨dv0, wv0, h0⟩ := Sts.openSrc hz.swap
  have k0 := (Sts.srcC h0).k0
  have HOK := hid (cOkS _ q k0)
  have HL := hid hl
  have HBL := hid hbl
  have HG := hid hg
  clear hP h0 hz hs hl hbl k0 hp1 hls hg
  go_enter Try.func25, Try.ntmps25
  go_wp2_with (first | (go_at_call 59; refine HOK.out.mono ?_; rintro e w2 ⟨rfl, rfl⟩) | (go_at_call 60; refine HP.out.mono ?_; rintro e w1 ⟨rfl, h1⟩; obtain ⟨dv, wv, h2⟩ := Sts.openSrc h1; have HB := hid (h2.perm (List.perm_middle (l₁ := [_, _, _]) (l₂ := l))); clear h1 h2))
  have HLB := hid (stabC (blkP_stable w.heap.size (.cells #[.int .i64 p.kind, .int .i64 p.src, .int .i64 p.num, .int .i64 p.cls, .string p.name, .int .i64 p.size, .int .i64 p.off, .slice p.da p.data.length p.dc, .int .u32 (p.sum : Nat), .int .i64 p.code, .slice p.ga p.gaps.length p.gc] 45 (0, 0))) (stabC (blkP_stable q (.cells (s1.cells dv wv) 64 (0, 0))) (stabC (rowP_stable 5 1 dv s1.data.length (u8s s1.data)) (stabC (rowP_stable 81 2 wv s1.wanted.length (Fil.rcells s1.wanted)) HL.out))))
  have hgb : ∀ y, Sts W (blkP w.heap.size (.cells #[.int .i64 p.kind, .int .i64 p.src, .int .i64 p.num, .int .i64 p.cls, .string p.name, .int .i64 p.size, .int .i64 p.off, .slice p.da p.data.length p.dc, .int .u32 (p.sum : Nat), .int .i64 p.code, .slice p.ga p.gaps.length p.gc] 45 (0, 0)) :: blkP q (.cells (s1.cells dv wv) 64 (0, 0)) :: rowP 5 1 dv s1.data.length (u8s s1.data) :: rowP 81 2 wv s1.wanted.length (Fil.rcells s1.wanted) :: l) y → RdR y (.slice p.ga p.gaps.length p.gc) p.gaps := fun y hy => HG.out _ y (Sts.shutSrc hy.tail)
  refine wp_region_ord (.pure 0 (.eff 1 (.pure 2 (.pure 3 (.pure 4 (.pure 5 (.pure 6 (.pure 7 (.pure 8 (.pure 9 (.pure 10 (.pure 11 (.pure 12 (.pure 13 (.pure 14 (.eff 15 (.pure 16 (.pure 17 .nil)))))))))))))))))) (fun y => SrcC y q s1 dv wv ∧ PduC y w.heap.size p) (fun y => Sts W (blkP w.heap.size (.cells #[.int .i64 p.kind, .int .i64 p.src, .int .i64 p.num, .int .i64 p.cls, .string p.name, .int .i64 p.size, .int .i64 p.off, .slice p.da p.data.length p.dc, .int .u32 (p.sum : Nat), .int .i64 p.code, .slice p.ga p.gaps.length p.gc] 45 (0, 0)) :: blkP q (.cells (s1.cells dv wv) 64 (0, 0)) :: rowP 5 1 dv s1.data.length (u8s s1.data) :: rowP 81 2 wv s1.wanted.length (Fil.rcells s1.wanted) :: l) y) (by kernel_rfl) (by kernel_rfl) (HB.out.drew HLB.out) (fun y hy => ⟨Sts.srcC hy.tail, ⟨(Sts.boxCell hy 0 _ rfl).1, (Sts.boxCell hy 1 _ rfl).1, (Sts.boxCell hy 2 _ rfl).1, (Sts.boxCell hy 3 _ rfl).1, (Sts.boxCell hy 4 _ rfl).1, (Sts.boxCell hy 5 _ rfl).1, (Sts.boxCell hy 6 _ rfl).1, (Sts.boxCell hy 7 _ rfl).1, (Sts.boxCell hy 8 _ rfl).1, (Sts.boxCell hy 9 _ rfl).1, (Sts.boxCell hy 10 _ rfl).1⟩⟩) ?_
  apply ord_pure (ho := rfl)
  · go_simp
  · intro x hx; obtain ⟨hC, hP⟩ := hx; have k1 := hC.k1; have k2 := hC.k2; have p0 := hP.c0; have p1 := hP.c1; have p2 := hP.c2; have p3 := hP.c3; have p4 := hP.c4; have p5 := hP.c5; have p6 := hP.c6; have p7 := hP.c7; have p8 := hP.c8; have p9 := hP.c9; have p10 := hP.c10; clear hC hP; go_simp; rfl
  apply ord_norm
  · go_simp; rfl
  apply ord_eff (ho := rfl)
  · go_simp
  intro y hy
  refine eff_call (f := 54) (by go_simp; rfl) (cValid y p hname hdata (by omega) (hgb y hy)) ?_
  rintro e w2 ⟨rfl, hb⟩
  refine ⟨_, rfl, (fun y => SrcC y q s1 dv wv ∧ PduC y w.heap.size p), (fun y => Sts W (blkP w.heap.size (.cells #[.int .i64 p.kind, .int .i64 p.src, .int .i64 p.num, .int .i64 p.cls, .string p.name, .int .i64 p.size, .int .i64 p.off, .slice p.da p.data.length p.dc, .int .u32 (p.sum : Nat), .int .i64 p.code, .slice p.ga p.gaps.length p.gc] 45 (0, 0)) :: blkP q (.cells (s1.cells dv wv) 64 (0, 0)) :: rowP 5 1 dv s1.data.length (u8s s1.data) :: rowP 81 2 wv s1.wanted.length (Fil.rcells s1.wanted) :: l) y), hy.quiet HLB.out hb, (fun y hy => ⟨Sts.srcC hy.tail, ⟨(Sts.boxCell hy 0 _ rfl).1, (Sts.boxCell hy 1 _ rfl).1, (Sts.boxCell hy 2 _ rfl).1, (Sts.boxCell hy 3 _ rfl).1, (Sts.boxCell hy 4 _ rfl).1, (Sts.boxCell hy 5 _ rfl).1, (Sts.boxCell hy 6 _ rfl).1, (Sts.boxCell hy 7 _ rfl).1, (Sts.boxCell hy 8 _ rfl).1, (Sts.boxCell hy 9 _ rfl).1, (Sts.boxCell hy 10 _ rfl).1⟩⟩), (fun _ h => h), ?_⟩
  rw [hv]
  clear hb hy y
  apply ord_norm
  · go_simp; rfl
  iterate 2
    (apply ord_pure (ho := rfl)
     · go_simp
     · intro x hx; obtain ⟨hC, hP⟩ := hx; have k1 := hC.k1; have k2 := hC.k2; have p0 := hP.c0; have p1 := hP.c1; have p2 := hP.c2; have p3 := hP.c3; have p4 := hP.c4; have p5 := hP.c5; have p6 := hP.c6; have p7 := hP.c7; have p8 := hP.c8; have p9 := hP.c9; have p10 := hP.c10; clear hC hP; go_simp; rfl
     apply ord_norm
     · go_simp; rfl)
  iterate 7
    (apply ord_pure (ho := rfl)
     · go_simp
     · intro x hx; obtain ⟨hC, hP⟩ := hx; have k1 := hC.k1; have k2 := hC.k2; have p0 := hP.c0; have p1 := hP.c1; have p2 := hP.c2; have p3 := hP.c3; have p4 := hP.c4; have p5 := hP.c5; have p6 := hP.c6; have p7 := hP.c7; have p8 := hP.c8; have p9 := hP.c9; have p10 := hP.c10; clear hC hP; go_simp; rfl
     apply ord_norm
     · go_simp; rfl)
  iterate 2
    (apply ord_pure (ho := rfl)
     · go_simp
     · intro x hx; obtain ⟨hC, hP⟩ := hx; have k1 := hC.k1; have k2 := hC.k2; have p0 := hP.c0; have p1 := hP.c1; have p2 := hP.c2; have p3 := hP.c3; have p4 := hP.c4; have p5 := hP.c5; have p6 := hP.c6; have p7 := hP.c7; have p8 := hP.c8; have p9 := hP.c9; have p10 := hP.c10; clear hC hP; go_simp; rfl
     apply ord_norm
     · go_simp; rfl)
  iterate 2
    (apply ord_pure (ho := rfl)
     · go_simp
     · intro x hx; obtain ⟨hC, hP⟩ := hx; have k1 := hC.k1; have k2 := hC.k2; have p0 := hP.c0; have p1 := hP.c1; have p2 := hP.c2; have p3 := hP.c3; have p4 := hP.c4; have p5 := hP.c5; have p6 := hP.c6; have p7 := hP.c7; have p8 := hP.c8; have p9 := hP.c9; have p10 := hP.c10; clear hC hP; go_simp; rfl
     apply ord_norm
     · go_simp; rfl)
  apply ord_eff (ho := rfl)
  · go_simp
  intro y hy
  refine eff_call (f := 68) (by go_simp) (cForward y p.kind) ?_
  rintro e w2 ⟨rfl, rfl⟩
  refine ⟨_, rfl, (fun y => SrcC y q s1 dv wv ∧ PduC y w.heap.size p), (fun y => Sts W (blkP w.heap.size (.cells #[.int .i64 p.kind, .int .i64 p.src, .int .i64 p.num, .int .i64 p.cls, .string p.name, .int .i64 p.size, .int .i64 p.off, .slice p.da p.data.length p.dc, .int .u32 (p.sum : Nat), .int .i64 p.code, .slice p.ga p.gaps.length p.gc] 45 (0, 0)) :: blkP q (.cells (s1.cells dv wv) 64 (0, 0)) :: rowP 5 1 dv s1.data.length (u8s s1.data) :: rowP 81 2 wv s1.wanted.length (Fil.rcells s1.wanted) :: l) y), hy, (fun y hy => ⟨Sts.srcC hy.tail, ⟨(Sts.boxCell hy 0 _ rfl).1, (Sts.boxCell hy 1 _ rfl).1, (Sts.boxCell hy 2 _ rfl).1, (Sts.boxCell hy 3 _ rfl).1, (Sts.boxCell hy 4 _ rfl).1, (Sts.boxCell hy 5 _ rfl).1, (Sts.boxCell hy 6 _ rfl).1, (Sts.boxCell hy 7 _ rfl).1, (Sts.boxCell hy 8 _ rfl).1, (Sts.boxCell hy 9 _ rfl).1, (Sts.boxCell hy 10 _ rfl).1⟩⟩), (fun _ h => h), ?_⟩
  rw [hf]
  clear hy y
  apply ord_norm
  · go_simp; rfl
  iterate 2
    (apply ord_pure (ho := rfl)
     · go_simp
     · intro x hx; obtain ⟨hC, hP⟩ := hx; have k1 := hC.k1; have k2 := hC.k2; have p0 := hP.c0; have p1 := hP.c1; have p2 := hP.c2; have p3 := hP.c3; have p4 := hP.c4; have p5 := hP.c5; have p6 := hP.c6; have p7 := hP.c7; have p8 := hP.c8; have p9 := hP.c9; have p10 := hP.c10; clear hC hP; go_simp; rfl
     apply ord_norm
     · go_simp; rfl)
  refine ord_nil fun z hz => ?_
  have k3 := (Sts.srcC hz.tail).k3
  have p0 := (Sts.boxCell hz 0 _ rfl).1
  have p9 := (Sts.boxCell hz 9 _ rfl).1
  have p10 := (Sts.boxCell hz 10 _ rfl).1
  have HZ := hid ((Sts.shutSrc (hz.perm (List.perm_middle (l₁ := [_, _, _]) (l₂ := l)).symm)))
  clear hz HB
  rw [hc] at k3
  rw [HK.out] at p0
  go_wp2_with (first | (go_at_call 69; refine (cAck2 HBL.out q s1 HZ.out c1 c2).mono ?_; rintro e w2 ⟨rfl, h2⟩; have HF := hid h2.swap.tail; clear h2))
  go_ret
  exact ⟨rfl, HF.out⟩
set_option maxRecDepth 100000 in
set_option maxHeartbeats 2000000 in
theorem cTakeNakBad (hv : p.validB = true) (i1 : (p.src == s1.src) = true) (i2 : (p.num == s1.num) = true) (hf : Fil.fwdB p.kind = false) (hc : s1.cls = 2) (hk : p.kind = 4) (hbad : ∃ r ∈ p.gaps, (s1.data.length : Int) < r.2) : Calls Try.prog 25 #[.pointer (some ⟨q, 0, none⟩), .agg p.cells, .int .i64 now] w fun e w' => e = .returned (.int .i64 4) ∧ Sts W (srcP q s1 :: l) w' := by
  have HK := hid hk
  clear hk
  have HPC : p.cells = #[.int .i64 p.kind, .int .i64 p.src, .int .i64 p.num, .int .i64 p.cls, .string p.name, .int .i64 p.size, .int .i64 p.off, .slice p.da p.data.length p.dc, .int .u32 (p.sum : Nat), .int .i64 p.code, .slice p.ga p.gaps.length p.gc] := rfl
  rw [HPC]
  clear HPC
  have hls : ∀ B ∈ srcP q s :: l, Stable B := stabC (srcP_stable _ _) hl
  have hz := hs.alloc hls (.cells #[.int .i64 p.kind, .int .i64 p.src, .int .i64 p.num, .int .i64 p.cls, .string p.name, .int .i64 p.size, .int .i64 p.off, .slice p.da p.data.length p.dc, .int .u32 (p.sum : Nat), .int .i64 p.code, .slice p.ga p.gaps.length p.gc] 45)
  have hbl : ∀ B ∈ blkP w.heap.size (.cells #[.int .i64 p.kind, .int .i64 p.src, .int .i64 p.num, .int .i64 p.cls, .string p.name, .int .i64 p.size, .int .i64 p.off, .slice p.da p.data.length p.dc, .int .u32 (p.sum : Nat), .int .i64 p.code, .slice p.ga p.gaps.length p.gc] 45 (0, 0)) :: l, Stable B := stabC (blkP_stable _ _) hl
  have hP := cPass hbl q s hz.swap now
  rw [hp1] at hP
  have HP := hid hP
  obtain ⟨dv0, wv0, h0⟩ := Sts.openSrc hz.swap
  have k0 := (Sts.srcC h0).k0
  have HOK := hid (cOkS _ q k0)
  have HL := hid hl
  have HBL := hid hbl
  have HG := hid hg
  clear hP h0 hz hs hl hbl k0 hp1 hls hg
  go_enter Try.func25, Try.ntmps25
  go_wp2_with (first | (go_at_call 59; refine HOK.out.mono ?_; rintro e w2 ⟨rfl, rfl⟩) | (go_at_call 60; refine HP.out.mono ?_; rintro e w1 ⟨rfl, h1⟩; obtain ⟨dv, wv, h2⟩ := Sts.openSrc h1; have HB := hid (h2.perm (List.perm_middle (l₁ := [_, _, _]) (l₂ := l))); clear h1 h2))
  have HLB := hid (stabC (blkP_stable w.heap.size (.cells #[.int .i64 p.kind, .int .i64 p.src, .int .i64 p.num, .int .i64 p.cls, .string p.name, .int .i64 p.size, .int .i64 p.off, .slice p.da p.data.length p.dc, .int .u32 (p.sum : Nat), .int .i64 p.code, .slice p.ga p.gaps.length p.gc] 45 (0, 0))) (stabC (blkP_stable q (.cells (s1.cells dv wv) 64 (0, 0))) (stabC (rowP_stable 5 1 dv s1.data.length (u8s s1.data)) (stabC (rowP_stable 81 2 wv s1.wanted.length (Fil.rcells s1.wanted)) HL.out))))
  have hgb : ∀ y, Sts W (blkP w.heap.size (.cells #[.int .i64 p.kind, .int .i64 p.src, .int .i64 p.num, .int .i64 p.cls, .string p.name, .int .i64 p.size, .int .i64 p.off, .slice p.da p.data.length p.dc, .int .u32 (p.sum : Nat), .int .i64 p.code, .slice p.ga p.gaps.length p.gc] 45 (0, 0)) :: blkP q (.cells (s1.cells dv wv) 64 (0, 0)) :: rowP 5 1 dv s1.data.length (u8s s1.data) :: rowP 81 2 wv s1.wanted.length (Fil.rcells s1.wanted) :: l) y → RdR y (.slice p.ga p.gaps.length p.gc) p.gaps := fun y hy => HG.out _ y (Sts.shutSrc hy.tail)
  refine wp_region_ord (.pure 0 (.eff 1 (.pure 2 (.pure 3 (.pure 4 (.pure 5 (.pure 6 (.pure 7 (.pure 8 (.pure 9 (.pure 10 (.pure 11 (.pure 12 (.pure 13 (.pure 14 (.eff 15 (.pure 16 (.pure 17 .nil)))))))))))))))))) (fun y => SrcC y q s1 dv wv ∧ PduC y w.heap.size p) (fun y => Sts W (blkP w.heap.size (.cells #[.int .i64 p.kind, .int .i64 p.src, .int .i64 p.num, .int .i64 p.cls, .string p.name, .int .i64 p.size, .int .i64 p.off, .slice p.da p.data.length p.dc, .int .u32 (p.sum : Nat), .int .i64 p.code, .slice p.ga p.gaps.length p.gc] 45 (0, 0)) :: blkP q (.cells (s1.cells dv wv) 64 (0, 0)) :: rowP 5 1 dv s1.data.length (u8s s1.data) :: rowP 81 2 wv s1.wanted.length (Fil.rcells s1.wanted) :: l) y) (by kernel_rfl) (by kernel_rfl) (HB.out.drew HLB.out) (fun y hy => ⟨Sts.srcC hy.tail, ⟨(Sts.boxCell hy 0 _ rfl).1, (Sts.boxCell hy 1 _ rfl).1, (Sts.boxCell hy 2 _ rfl).1, (Sts.boxCell hy 3 _ rfl).1, (Sts.boxCell hy 4 _ rfl).1, (Sts.boxCell hy 5 _ rfl).1, (Sts.boxCell hy 6 _ rfl).1, (Sts.boxCell hy 7 _ rfl).1, (Sts.boxCell hy 8 _ rfl).1, (Sts.boxCell hy 9 _ rfl).1, (Sts.boxCell hy 10 _ rfl).1⟩⟩) ?_
  apply ord_pure (ho := rfl)
  · go_simp
  · intro x hx; obtain ⟨hC, hP⟩ := hx; have k1 := hC.k1; have k2 := hC.k2; have p0 := hP.c0; have p1 := hP.c1; have p2 := hP.c2; have p3 := hP.c3; have p4 := hP.c4; have p5 := hP.c5; have p6 := hP.c6; have p7 := hP.c7; have p8 := hP.c8; have p9 := hP.c9; have p10 := hP.c10; clear hC hP; go_simp; rfl
  apply ord_norm
  · go_simp; rfl
  apply ord_eff (ho := rfl)
  · go_simp
  intro y hy
  refine eff_call (f := 54) (by go_simp; rfl) (cValid y p hname hdata (by omega) (hgb y hy)) ?_
  rintro e w2 ⟨rfl, hb⟩
  refine ⟨_, rfl, (fun y => SrcC y q s1 dv wv ∧ PduC y w.heap.size p), (fun y => Sts W (blkP w.heap.size (.cells #[.int .i64 p.kind, .int .i64 p.src, .int .i64 p.num, .int .i64 p.cls, .string p.name, .int .i64 p.size, .int .i64 p.off, .slice p.da p.data.length p.dc, .int .u32 (p.sum : Nat), .int .i64 p.code, .slice p.ga p.gaps.length p.gc] 45 (0, 0)) :: blkP q (.cells (s1.cells dv wv) 64 (0, 0)) :: rowP 5 1 dv s1.data.length (u8s s1.data) :: rowP 81 2 wv s1.wanted.length (Fil.rcells s1.wanted) :: l) y), hy.quiet HLB.out hb, (fun y hy => ⟨Sts.srcC hy.tail, ⟨(Sts.boxCell hy 0 _ rfl).1, (Sts.boxCell hy 1 _ rfl).1, (Sts.boxCell hy 2 _ rfl).1, (Sts.boxCell hy 3 _ rfl).1, (Sts.boxCell hy 4 _ rfl).1, (Sts.boxCell hy 5 _ rfl).1, (Sts.boxCell hy 6 _ rfl).1, (Sts.boxCell hy 7 _ rfl).1, (Sts.boxCell hy 8 _ rfl).1, (Sts.boxCell hy 9 _ rfl).1, (Sts.boxCell hy 10 _ rfl).1⟩⟩), (fun _ h => h), ?_⟩
  rw [hv]
  clear hb hy y
  apply ord_norm
  · go_simp; rfl
  iterate 2
    (apply ord_pure (ho := rfl)
     · go_simp
     · intro x hx; obtain ⟨hC, hP⟩ := hx; have k1 := hC.k1; have k2 := hC.k2; have p0 := hP.c0; have p1 := hP.c1; have p2 := hP.c2; have p3 := hP.c3; have p4 := hP.c4; have p5 := hP.c5; have p6 := hP.c6; have p7 := hP.c7; have p8 := hP.c8; have p9 := hP.c9; have p10 := hP.c10; clear hC hP; go_simp; rfl
     apply ord_norm
     · go_simp; rfl)
  iterate 7
    (apply ord_pure (ho := rfl)
     · go_simp
     · intro x hx; obtain ⟨hC, hP⟩ := hx; have k1 := hC.k1; have k2 := hC.k2; have p0 := hP.c0; have p1 := hP.c1; have p2 := hP.c2; have p3 := hP.c3; have p4 := hP.c4; have p5 := hP.c5; have p6 := hP.c6; have p7 := hP.c7; have p8 := hP.c8; have p9 := hP.c9; have p10 := hP.c10; clear hC hP; go_simp; rfl
     apply ord_norm
     · go_simp; rfl)
  iterate 2
    (apply ord_pure (ho := rfl)
     · go_simp
     · intro x hx; obtain ⟨hC, hP⟩ := hx; have k1 := hC.k1; have k2 := hC.k2; have p0 := hP.c0; have p1 := hP.c1; have p2 := hP.c2; have p3 := hP.c3; have p4 := hP.c4; have p5 := hP.c5; have p6 := hP.c6; have p7 := hP.c7; have p8 := hP.c8; have p9 := hP.c9; have p10 := hP.c10; clear hC hP; go_simp; rfl
     apply ord_norm
     · go_simp; rfl)
  iterate 2
    (apply ord_pure (ho := rfl)
     · go_simp
     · intro x hx; obtain ⟨hC, hP⟩ := hx; have k1 := hC.k1; have k2 := hC.k2; have p0 := hP.c0; have p1 := hP.c1; have p2 := hP.c2; have p3 := hP.c3; have p4 := hP.c4; have p5 := hP.c5; have p6 := hP.c6; have p7 := hP.c7; have p8 := hP.c8; have p9 := hP.c9; have p10 := hP.c10; clear hC hP; go_simp; rfl
     apply ord_norm
     · go_simp; rfl)
  apply ord_eff (ho := rfl)
  · go_simp
  intro y hy
  refine eff_call (f := 68) (by go_simp) (cForward y p.kind) ?_
  rintro e w2 ⟨rfl, rfl⟩
  refine ⟨_, rfl, (fun y => SrcC y q s1 dv wv ∧ PduC y w.heap.size p), (fun y => Sts W (blkP w.heap.size (.cells #[.int .i64 p.kind, .int .i64 p.src, .int .i64 p.num, .int .i64 p.cls, .string p.name, .int .i64 p.size, .int .i64 p.off, .slice p.da p.data.length p.dc, .int .u32 (p.sum : Nat), .int .i64 p.code, .slice p.ga p.gaps.length p.gc] 45 (0, 0)) :: blkP q (.cells (s1.cells dv wv) 64 (0, 0)) :: rowP 5 1 dv s1.data.length (u8s s1.data) :: rowP 81 2 wv s1.wanted.length (Fil.rcells s1.wanted) :: l) y), hy, (fun y hy => ⟨Sts.srcC hy.tail, ⟨(Sts.boxCell hy 0 _ rfl).1, (Sts.boxCell hy 1 _ rfl).1, (Sts.boxCell hy 2 _ rfl).1, (Sts.boxCell hy 3 _ rfl).1, (Sts.boxCell hy 4 _ rfl).1, (Sts.boxCell hy 5 _ rfl).1, (Sts.boxCell hy 6 _ rfl).1, (Sts.boxCell hy 7 _ rfl).1, (Sts.boxCell hy 8 _ rfl).1, (Sts.boxCell hy 9 _ rfl).1, (Sts.boxCell hy 10 _ rfl).1⟩⟩), (fun _ h => h), ?_⟩
  rw [hf]
  clear hy y
  apply ord_norm
  · go_simp; rfl
  iterate 2
    (apply ord_pure (ho := rfl)
     · go_simp
     · intro x hx; obtain ⟨hC, hP⟩ := hx; have k1 := hC.k1; have k2 := hC.k2; have p0 := hP.c0; have p1 := hP.c1; have p2 := hP.c2; have p3 := hP.c3; have p4 := hP.c4; have p5 := hP.c5; have p6 := hP.c6; have p7 := hP.c7; have p8 := hP.c8; have p9 := hP.c9; have p10 := hP.c10; clear hC hP; go_simp; rfl
     apply ord_norm
     · go_simp; rfl)
  refine ord_nil fun z hz => ?_
  have k3 := (Sts.srcC hz.tail).k3
  have p0 := (Sts.boxCell hz 0 _ rfl).1
  have p9 := (Sts.boxCell hz 9 _ rfl).1
  have p10 := (Sts.boxCell hz 10 _ rfl).1
  have HZ := hid ((Sts.shutSrc (hz.perm (List.perm_middle (l₁ := [_, _, _]) (l₂ := l)).symm)))
  clear hz HB
  rw [hc] at k3
  rw [HK.out] at p0
  have hgg : ∀ A y, Sts W (A :: blkP w.heap.size (.cells #[.int .i64 p.kind, .int .i64 p.src, .int .i64 p.num, .int .i64 p.cls, .string p.name, .int .i64 p.size, .int .i64 p.off, .slice p.da p.data.length p.dc, .int .u32 (p.sum : Nat), .int .i64 p.code, .slice p.ga p.gaps.length p.gc] 45 (0, 0)) :: l) y → RdR y (.slice p.ga p.gaps.length p.gc) p.gaps := fun A y hy => HG.out A y hy.swap.tail
  have HGG := hid hgg
  clear hgg hgb
  go_wp2_with (first | (go_at_call 70; refine (cReqBad HBL.out q s1 HZ.out p.gaps _ HGG.out hgl hbad).mono ?_; rintro e w2 ⟨rfl, h2⟩; have HF := hid h2.swap.tail; clear h2))
  go_ret
  exact ⟨rfl, HF.out⟩
set_option maxRecDepth 100000 in
set_option maxHeartbeats 2000000 in
theorem cTakeNakIdle (hv : p.validB = true) (i1 : (p.src == s1.src) = true) (i2 : (p.num == s1.num) = true) (hf : Fil.fwdB p.kind = false) (hc : s1.cls = 2) (hk : p.kind = 4) (hok : ∀ r ∈ p.gaps, r.2 ≤ (s1.data.length : Int)) (q0 : (s1.phase != 0) = true) (q1 : (s1.phase != 1) = true) : Calls Try.prog 25 #[.pointer (some ⟨q, 0, none⟩), .agg p.cells, .int .i64 now] w fun e w' => e = .returned (.int .i64 0) ∧ Sts W (srcP q s1 :: l) w' := by
  have HK := hid hk
  clear hk
  have HPC : p.cells = #[.int .i64 p.kind, .int .i64 p.src, .int .i64 p.num, .int .i64 p.cls, .string p.name, .int .i64 p.size, .int .i64 p.off, .slice p.da p.data.length p.dc, .int .u32 (p.sum : Nat), .int .i64 p.code, .slice p.ga p.gaps.length p.gc] := rfl
  rw [HPC]
  clear HPC
  have hls : ∀ B ∈ srcP q s :: l, Stable B := stabC (srcP_stable _ _) hl
  have hz := hs.alloc hls (.cells #[.int .i64 p.kind, .int .i64 p.src, .int .i64 p.num, .int .i64 p.cls, .string p.name, .int .i64 p.size, .int .i64 p.off, .slice p.da p.data.length p.dc, .int .u32 (p.sum : Nat), .int .i64 p.code, .slice p.ga p.gaps.length p.gc] 45)
  have hbl : ∀ B ∈ blkP w.heap.size (.cells #[.int .i64 p.kind, .int .i64 p.src, .int .i64 p.num, .int .i64 p.cls, .string p.name, .int .i64 p.size, .int .i64 p.off, .slice p.da p.data.length p.dc, .int .u32 (p.sum : Nat), .int .i64 p.code, .slice p.ga p.gaps.length p.gc] 45 (0, 0)) :: l, Stable B := stabC (blkP_stable _ _) hl
  have hP := cPass hbl q s hz.swap now
  rw [hp1] at hP
  have HP := hid hP
  obtain ⟨dv0, wv0, h0⟩ := Sts.openSrc hz.swap
  have k0 := (Sts.srcC h0).k0
  have HOK := hid (cOkS _ q k0)
  have HL := hid hl
  have HBL := hid hbl
  have HG := hid hg
  clear hP h0 hz hs hl hbl k0 hp1 hls hg
  go_enter Try.func25, Try.ntmps25
  go_wp2_with (first | (go_at_call 59; refine HOK.out.mono ?_; rintro e w2 ⟨rfl, rfl⟩) | (go_at_call 60; refine HP.out.mono ?_; rintro e w1 ⟨rfl, h1⟩; obtain ⟨dv, wv, h2⟩ := Sts.openSrc h1; have HB := hid (h2.perm (List.perm_middle (l₁ := [_, _, _]) (l₂ := l))); clear h1 h2))
  have HLB := hid (stabC (blkP_stable w.heap.size (.cells #[.int .i64 p.kind, .int .i64 p.src, .int .i64 p.num, .int .i64 p.cls, .string p.name, .int .i64 p.size, .int .i64 p.off, .slice p.da p.data.length p.dc, .int .u32 (p.sum : Nat), .int .i64 p.code, .slice p.ga p.gaps.length p.gc] 45 (0, 0))) (stabC (blkP_stable q (.cells (s1.cells dv wv) 64 (0, 0))) (stabC (rowP_stable 5 1 dv s1.data.length (u8s s1.data)) (stabC (rowP_stable 81 2 wv s1.wanted.length (Fil.rcells s1.wanted)) HL.out))))
  have hgb : ∀ y, Sts W (blkP w.heap.size (.cells #[.int .i64 p.kind, .int .i64 p.src, .int .i64 p.num, .int .i64 p.cls, .string p.name, .int .i64 p.size, .int .i64 p.off, .slice p.da p.data.length p.dc, .int .u32 (p.sum : Nat), .int .i64 p.code, .slice p.ga p.gaps.length p.gc] 45 (0, 0)) :: blkP q (.cells (s1.cells dv wv) 64 (0, 0)) :: rowP 5 1 dv s1.data.length (u8s s1.data) :: rowP 81 2 wv s1.wanted.length (Fil.rcells s1.wanted) :: l) y → RdR y (.slice p.ga p.gaps.length p.gc) p.gaps := fun y hy => HG.out _ y (Sts.shutSrc hy.tail)
  refine wp_region_ord (.pure 0 (.eff 1 (.pure 2 (.pure 3 (.pure 4 (.pure 5 (.pure 6 (.pure 7 (.pure 8 (.pure 9 (.pure 10 (.pure 11 (.pure 12 (.pure 13 (.pure 14 (.eff 15 (.pure 16 (.pure 17 .nil)))))))))))))))))) (fun y => SrcC y q s1 dv wv ∧ PduC y w.heap.size p) (fun y => Sts W (blkP w.heap.size (.cells #[.int .i64 p.kind, .int .i64 p.src, .int .i64 p.num, .int .i64 p.cls, .string p.name, .int .i64 p.size, .int .i64 p.off, .slice p.da p.data.length p.dc, .int .u32 (p.sum : Nat), .int .i64 p.code, .slice p.ga p.gaps.length p.gc] 45 (0, 0)) :: blkP q (.cells (s1.cells dv wv) 64 (0, 0)) :: rowP 5 1 dv s1.data.length (u8s s1.data) :: rowP 81 2 wv s1.wanted.length (Fil.rcells s1.wanted) :: l) y) (by kernel_rfl) (by kernel_rfl) (HB.out.drew HLB.out) (fun y hy => ⟨Sts.srcC hy.tail, ⟨(Sts.boxCell hy 0 _ rfl).1, (Sts.boxCell hy 1 _ rfl).1, (Sts.boxCell hy 2 _ rfl).1, (Sts.boxCell hy 3 _ rfl).1, (Sts.boxCell hy 4 _ rfl).1, (Sts.boxCell hy 5 _ rfl).1, (Sts.boxCell hy 6 _ rfl).1, (Sts.boxCell hy 7 _ rfl).1, (Sts.boxCell hy 8 _ rfl).1, (Sts.boxCell hy 9 _ rfl).1, (Sts.boxCell hy 10 _ rfl).1⟩⟩) ?_
  apply ord_pure (ho := rfl)
  · go_simp
  · intro x hx; obtain ⟨hC, hP⟩ := hx; have k1 := hC.k1; have k2 := hC.k2; have p0 := hP.c0; have p1 := hP.c1; have p2 := hP.c2; have p3 := hP.c3; have p4 := hP.c4; have p5 := hP.c5; have p6 := hP.c6; have p7 := hP.c7; have p8 := hP.c8; have p9 := hP.c9; have p10 := hP.c10; clear hC hP; go_simp; rfl
  apply ord_norm
  · go_simp; rfl
  apply ord_eff (ho := rfl)
  · go_simp
  intro y hy
  refine eff_call (f := 54) (by go_simp; rfl) (cValid y p hname hdata (by omega) (hgb y hy)) ?_
  rintro e w2 ⟨rfl, hb⟩
  refine ⟨_, rfl, (fun y => SrcC y q s1 dv wv ∧ PduC y w.heap.size p), (fun y => Sts W (blkP w.heap.size (.cells #[.int .i64 p.kind, .int .i64 p.src, .int .i64 p.num, .int .i64 p.cls, .string p.name, .int .i64 p.size, .int .i64 p.off, .slice p.da p.data.length p.dc, .int .u32 (p.sum : Nat), .int .i64 p.code, .slice p.ga p.gaps.length p.gc] 45 (0, 0)) :: blkP q (.cells (s1.cells dv wv) 64 (0, 0)) :: rowP 5 1 dv s1.data.length (u8s s1.data) :: rowP 81 2 wv s1.wanted.length (Fil.rcells s1.wanted) :: l) y), hy.quiet HLB.out hb, (fun y hy => ⟨Sts.srcC hy.tail, ⟨(Sts.boxCell hy 0 _ rfl).1, (Sts.boxCell hy 1 _ rfl).1, (Sts.boxCell hy 2 _ rfl).1, (Sts.boxCell hy 3 _ rfl).1, (Sts.boxCell hy 4 _ rfl).1, (Sts.boxCell hy 5 _ rfl).1, (Sts.boxCell hy 6 _ rfl).1, (Sts.boxCell hy 7 _ rfl).1, (Sts.boxCell hy 8 _ rfl).1, (Sts.boxCell hy 9 _ rfl).1, (Sts.boxCell hy 10 _ rfl).1⟩⟩), (fun _ h => h), ?_⟩
  rw [hv]
  clear hb hy y
  apply ord_norm
  · go_simp; rfl
  iterate 2
    (apply ord_pure (ho := rfl)
     · go_simp
     · intro x hx; obtain ⟨hC, hP⟩ := hx; have k1 := hC.k1; have k2 := hC.k2; have p0 := hP.c0; have p1 := hP.c1; have p2 := hP.c2; have p3 := hP.c3; have p4 := hP.c4; have p5 := hP.c5; have p6 := hP.c6; have p7 := hP.c7; have p8 := hP.c8; have p9 := hP.c9; have p10 := hP.c10; clear hC hP; go_simp; rfl
     apply ord_norm
     · go_simp; rfl)
  iterate 7
    (apply ord_pure (ho := rfl)
     · go_simp
     · intro x hx; obtain ⟨hC, hP⟩ := hx; have k1 := hC.k1; have k2 := hC.k2; have p0 := hP.c0; have p1 := hP.c1; have p2 := hP.c2; have p3 := hP.c3; have p4 := hP.c4; have p5 := hP.c5; have p6 := hP.c6; have p7 := hP.c7; have p8 := hP.c8; have p9 := hP.c9; have p10 := hP.c10; clear hC hP; go_simp; rfl
     apply ord_norm
     · go_simp; rfl)
  iterate 2
    (apply ord_pure (ho := rfl)
     · go_simp
     · intro x hx; obtain ⟨hC, hP⟩ := hx; have k1 := hC.k1; have k2 := hC.k2; have p0 := hP.c0; have p1 := hP.c1; have p2 := hP.c2; have p3 := hP.c3; have p4 := hP.c4; have p5 := hP.c5; have p6 := hP.c6; have p7 := hP.c7; have p8 := hP.c8; have p9 := hP.c9; have p10 := hP.c10; clear hC hP; go_simp; rfl
     apply ord_norm
     · go_simp; rfl)
  iterate 2
    (apply ord_pure (ho := rfl)
     · go_simp
     · intro x hx; obtain ⟨hC, hP⟩ := hx; have k1 := hC.k1; have k2 := hC.k2; have p0 := hP.c0; have p1 := hP.c1; have p2 := hP.c2; have p3 := hP.c3; have p4 := hP.c4; have p5 := hP.c5; have p6 := hP.c6; have p7 := hP.c7; have p8 := hP.c8; have p9 := hP.c9; have p10 := hP.c10; clear hC hP; go_simp; rfl
     apply ord_norm
     · go_simp; rfl)
  apply ord_eff (ho := rfl)
  · go_simp
  intro y hy
  refine eff_call (f := 68) (by go_simp) (cForward y p.kind) ?_
  rintro e w2 ⟨rfl, rfl⟩
  refine ⟨_, rfl, (fun y => SrcC y q s1 dv wv ∧ PduC y w.heap.size p), (fun y => Sts W (blkP w.heap.size (.cells #[.int .i64 p.kind, .int .i64 p.src, .int .i64 p.num, .int .i64 p.cls, .string p.name, .int .i64 p.size, .int .i64 p.off, .slice p.da p.data.length p.dc, .int .u32 (p.sum : Nat), .int .i64 p.code, .slice p.ga p.gaps.length p.gc] 45 (0, 0)) :: blkP q (.cells (s1.cells dv wv) 64 (0, 0)) :: rowP 5 1 dv s1.data.length (u8s s1.data) :: rowP 81 2 wv s1.wanted.length (Fil.rcells s1.wanted) :: l) y), hy, (fun y hy => ⟨Sts.srcC hy.tail, ⟨(Sts.boxCell hy 0 _ rfl).1, (Sts.boxCell hy 1 _ rfl).1, (Sts.boxCell hy 2 _ rfl).1, (Sts.boxCell hy 3 _ rfl).1, (Sts.boxCell hy 4 _ rfl).1, (Sts.boxCell hy 5 _ rfl).1, (Sts.boxCell hy 6 _ rfl).1, (Sts.boxCell hy 7 _ rfl).1, (Sts.boxCell hy 8 _ rfl).1, (Sts.boxCell hy 9 _ rfl).1, (Sts.boxCell hy 10 _ rfl).1⟩⟩), (fun _ h => h), ?_⟩
  rw [hf]
  clear hy y
  apply ord_norm
  · go_simp; rfl
  iterate 2
    (apply ord_pure (ho := rfl)
     · go_simp
     · intro x hx; obtain ⟨hC, hP⟩ := hx; have k1 := hC.k1; have k2 := hC.k2; have p0 := hP.c0; have p1 := hP.c1; have p2 := hP.c2; have p3 := hP.c3; have p4 := hP.c4; have p5 := hP.c5; have p6 := hP.c6; have p7 := hP.c7; have p8 := hP.c8; have p9 := hP.c9; have p10 := hP.c10; clear hC hP; go_simp; rfl
     apply ord_norm
     · go_simp; rfl)
  refine ord_nil fun z hz => ?_
  have k3 := (Sts.srcC hz.tail).k3
  have p0 := (Sts.boxCell hz 0 _ rfl).1
  have p9 := (Sts.boxCell hz 9 _ rfl).1
  have p10 := (Sts.boxCell hz 10 _ rfl).1
  have HZ := hid ((Sts.shutSrc (hz.perm (List.perm_middle (l₁ := [_, _, _]) (l₂ := l)).symm)))
  clear hz HB
  rw [hc] at k3
  rw [HK.out] at p0
  have hgg : ∀ A y, Sts W (A :: blkP w.heap.size (.cells #[.int .i64 p.kind, .int .i64 p.src, .int .i64 p.num, .int .i64 p.cls, .string p.name, .int .i64 p.size, .int .i64 p.off, .slice p.da p.data.length p.dc, .int .u32 (p.sum : Nat), .int .i64 p.code, .slice p.ga p.gaps.length p.gc] 45 (0, 0)) :: l) y → RdR y (.slice p.ga p.gaps.length p.gc) p.gaps := fun A y hy => HG.out A y hy.swap.tail
  have HGG := hid hgg
  clear hgg hgb
  go_wp2_with (first | (go_at_call 70; refine (cReqIdle HBL.out q s1 HZ.out p.gaps _ HGG.out hgl hok q0 q1).mono ?_; rintro e w2 ⟨rfl, h2⟩; have HF := hid h2.swap.tail; clear h2))
  go_ret
  exact ⟨rfl, HF.out⟩
set_option maxRecDepth 100000 in
set_option maxHeartbeats 2000000 in
theorem cTakeNak0 (hv : p.validB = true) (i1 : (p.src == s1.src) = true) (i2 : (p.num == s1.num) = true) (hf : Fil.fwdB p.kind = false) (hc : s1.cls = 2) (hk : p.kind = 4) (hok : ∀ r ∈ p.gaps, r.2 ≤ (s1.data.length : Int)) (q0 : s1.phase = 0) (hwl : s1.wanted.length < 400000) : Calls Try.prog 25 #[.pointer (some ⟨q, 0, none⟩), .agg p.cells, .int .i64 now] w fun e w' => e = .returned (.int .i64 0) ∧ Sts W (srcP q { s1.reqGo p.gaps with timer := (s1.reqGo p.gaps).now, tries := 0 } :: l) w' := by
  have HK := hid hk
  clear hk
  have HPC : p.cells = #[.int .i64 p.kind, .int .i64 p.src, .int .i64 p.num, .int .i64 p.cls, .string p.name, .int .i64 p.size, .int .i64 p.off, .slice p.da p.data.length p.dc, .int .u32 (p.sum : Nat), .int .i64 p.code, .slice p.ga p.gaps.length p.gc] := rfl
  rw [HPC]
  clear HPC
  have hls : ∀ B ∈ srcP q s :: l, Stable B := stabC (srcP_stable _ _) hl
  have hz := hs.alloc hls (.cells #[.int .i64 p.kind, .int .i64 p.src, .int .i64 p.num, .int .i64 p.cls, .string p.name, .int .i64 p.size, .int .i64 p.off, .slice p.da p.data.length p.dc, .int .u32 (p.sum : Nat), .int .i64 p.code, .slice p.ga p.gaps.length p.gc] 45)
  have hbl : ∀ B ∈ blkP w.heap.size (.cells #[.int .i64 p.kind, .int .i64 p.src, .int .i64 p.num, .int .i64 p.cls, .string p.name, .int .i64 p.size, .int .i64 p.off, .slice p.da p.data.length p.dc, .int .u32 (p.sum : Nat), .int .i64 p.code, .slice p.ga p.gaps.length p.gc] 45 (0, 0)) :: l, Stable B := stabC (blkP_stable _ _) hl
  have hP := cPass hbl q s hz.swap now
  rw [hp1] at hP
  have HP := hid hP
  obtain ⟨dv0, wv0, h0⟩ := Sts.openSrc hz.swap
  have k0 := (Sts.srcC h0).k0
  have HOK := hid (cOkS _ q k0)
  have HL := hid hl
  have HBL := hid hbl
  have HG := hid hg
  clear hP h0 hz hs hl hbl k0 hp1 hls hg
  go_enter Try.func25, Try.ntmps25
  go_wp2_with (first | (go_at_call 59; refine HOK.out.mono ?_; rintro e w2 ⟨rfl, rfl⟩) | (go_at_call 60; refine HP.out.mono ?_; rintro e w1 ⟨rfl, h1⟩; obtain ⟨dv, wv, h2⟩ := Sts.openSrc h1; have HB := hid (h2.perm (List.perm_middle (l₁ := [_, _, _]) (l₂ := l))); clear h1 h2))
  have HLB := hid (stabC (blkP_stable w.heap.size (.cells #[.int .i64 p.kind, .int .i64 p.src, .int .i64 p.num, .int .i64 p.cls, .string p.name, .int .i64 p.size, .int .i64 p.off, .slice p.da p.data.length p.dc, .int .u32 (p.sum : Nat), .int .i64 p.code, .slice p.ga p.gaps.length p.gc] 45 (0, 0))) (stabC (blkP_stable q (.cells (s1.cells dv wv) 64 (0, 0))) (stabC (rowP_stable 5 1 dv s1.data.length (u8s s1.data)) (stabC (rowP_stable 81 2 wv s1.wanted.length (Fil.rcells s1.wanted)) HL.out))))
  have hgb : ∀ y, Sts W (blkP w.heap.size (.cells #[.int .i64 p.kind, .int .i64 p.src, .int .i64 p.num, .int .i64 p.cls, .string p.name, .int .i64 p.size, .int .i64 p.off, .slice p.da p.data.length p.dc, .int .u32 (p.sum : Nat), .int .i64 p.code, .slice p.ga p.gaps.length p.gc] 45 (0, 0)) :: blkP q (.cells (s1.cells dv wv) 64 (0, 0)) :: rowP 5 1 dv s1.data.length (u8s s1.data) :: rowP 81 2 wv s1.wanted.length (Fil.rcells s1.wanted) :: l) y → RdR y (.slice p.ga p.gaps.length p.gc) p.gaps := fun y hy => HG.out _ y (Sts.shutSrc hy.tail)
  refine wp_region_ord (.pure 0 (.eff 1 (.pure 2 (.pure 3 (.pure 4 (.pure 5 (.pure 6 (.pure 7 (.pure 8 (.pure 9 (.pure 10 (.pure 11 (.pure 12 (.pure 13 (.pure 14 (.eff 15 (.pure 16 (.pure 17 .nil)))))))))))))))))) (fun y => SrcC y q s1 dv wv ∧ PduC y w.heap.size p) (fun y => Sts W (blkP w.heap.size (.cells #[.int .i64 p.kind, .int .i64 p.src, .int .i64 p.num, .int .i64 p.cls, .string p.name, .int .i64 p.size, .int .i64 p.off, .slice p.da p.data.length p.dc, .int .u32 (p.sum : Nat), .int .i64 p.code, .slice p.ga p.gaps.length p.gc] 45 (0, 0)) :: blkP q (.cells (s1.cells dv wv) 64 (0, 0)) :: rowP 5 1 dv s1.data.length (u8s s1.data) :: rowP 81 2 wv s1.wanted.length (Fil.rcells s1.wanted) :: l) y) (by kernel_rfl) (by kernel_rfl) (HB.out.drew HLB.out) (fun y hy => ⟨Sts.srcC hy.tail, ⟨(Sts.boxCell hy 0 _ rfl).1, (Sts.boxCell hy 1 _ rfl).1, (Sts.boxCell hy 2 _ rfl).1, (Sts.boxCell hy 3 _ rfl).1, (Sts.boxCell hy 4 _ rfl).1, (Sts.boxCell hy 5 _ rfl).1, (Sts.boxCell hy 6 _ rfl).1, (Sts.boxCell hy 7 _ rfl).1, (Sts.boxCell hy 8 _ rfl).1, (Sts.boxCell hy 9 _ rfl).1, (Sts.boxCell hy 10 _ rfl).1⟩⟩) ?_
  apply ord_pure (ho := rfl)
  · go_simp
  · intro x hx; obtain ⟨hC, hP⟩ := hx; have k1 := hC.k1; have k2 := hC.k2; have p0 := hP.c0; have p1 := hP.c1; have p2 := hP.c2; have p3 := hP.c3; have p4 := hP.c4; have p5 := hP.c5; have p6 := hP.c6; have p7 := hP.c7; have p8 := hP.c8; have p9 := hP.c9; have p10 := hP.c10; clear hC hP; go_simp; rfl
  apply ord_norm
  · go_simp; rfl
  apply ord_eff (ho := rfl)
  · go_simp
  intro y hy
  refine eff_call (f := 54) (by go_simp; rfl) (cValid y p hname hdata (by omega) (hgb y hy)) ?_
  rintro e w2 ⟨rfl, hb⟩
  refine ⟨_, rfl, (fun y => SrcC y q s1 dv wv ∧ PduC y w.heap.size p), (fun y => Sts W (blkP w.heap.size (.cells #[.int .i64 p.kind, .int .i64 p.src, .int .i64 p.num, .int .i64 p.cls, .string p.name, .int .i64 p.size, .int .i64 p.off, .slice p.da p.data.length p.dc, .int .u32 (p.sum : Nat), .int .i64 p.code, .slice p.ga p.gaps.length p.gc] 45 (0, 0)) :: blkP q (.cells (s1.cells dv wv) 64 (0, 0)) :: rowP 5 1 dv s1.data.length (u8s s1.data) :: rowP 81 2 wv s1.wanted.length (Fil.rcells s1.wanted) :: l) y), hy.quiet HLB.out hb, (fun y hy => ⟨Sts.srcC hy.tail, ⟨(Sts.boxCell hy 0 _ rfl).1, (Sts.boxCell hy 1 _ rfl).1, (Sts.boxCell hy 2 _ rfl).1, (Sts.boxCell hy 3 _ rfl).1, (Sts.boxCell hy 4 _ rfl).1, (Sts.boxCell hy 5 _ rfl).1, (Sts.boxCell hy 6 _ rfl).1, (Sts.boxCell hy 7 _ rfl).1, (Sts.boxCell hy 8 _ rfl).1, (Sts.boxCell hy 9 _ rfl).1, (Sts.boxCell hy 10 _ rfl).1⟩⟩), (fun _ h => h), ?_⟩
  rw [hv]
  clear hb hy y
  apply ord_norm
  · go_simp; rfl
  iterate 2
    (apply ord_pure (ho := rfl)
     · go_simp
     · intro x hx; obtain ⟨hC, hP⟩ := hx; have k1 := hC.k1; have k2 := hC.k2; have p0 := hP.c0; have p1 := hP.c1; have p2 := hP.c2; have p3 := hP.c3; have p4 := hP.c4; have p5 := hP.c5; have p6 := hP.c6; have p7 := hP.c7; have p8 := hP.c8; have p9 := hP.c9; have p10 := hP.c10; clear hC hP; go_simp; rfl
     apply ord_norm
     · go_simp; rfl)
  iterate 7
    (apply ord_pure (ho := rfl)
     · go_simp
     · intro x hx; obtain ⟨hC, hP⟩ := hx; have k1 := hC.k1; have k2 := hC.k2; have p0 := hP.c0; have p1 := hP.c1; have p2 := hP.c2; have p3 := hP.c3; have p4 := hP.c4; have p5 := hP.c5; have p6 := hP.c6; have p7 := hP.c7; have p8 := hP.c8; have p9 := hP.c9; have p10 := hP.c10; clear hC hP; go_simp; rfl
     apply ord_norm
     · go_simp; rfl)
  iterate 2
    (apply ord_pure (ho := rfl)
     · go_simp
     · intro x hx; obtain ⟨hC, hP⟩ := hx; have k1 := hC.k1; have k2 := hC.k2; have p0 := hP.c0; have p1 := hP.c1; have p2 := hP.c2; have p3 := hP.c3; have p4 := hP.c4; have p5 := hP.c5; have p6 := hP.c6; have p7 := hP.c7; have p8 := hP.c8; have p9 := hP.c9; have p10 := hP.c10; clear hC hP; go_simp; rfl
     apply ord_norm
     · go_simp; rfl)
  iterate 2
    (apply ord_pure (ho := rfl)
     · go_simp
     · intro x hx; obtain ⟨hC, hP⟩ := hx; have k1 := hC.k1; have k2 := hC.k2; have p0 := hP.c0; have p1 := hP.c1; have p2 := hP.c2; have p3 := hP.c3; have p4 := hP.c4; have p5 := hP.c5; have p6 := hP.c6; have p7 := hP.c7; have p8 := hP.c8; have p9 := hP.c9; have p10 := hP.c10; clear hC hP; go_simp; rfl
     apply ord_norm
     · go_simp; rfl)
  apply ord_eff (ho := rfl)
  · go_simp
  intro y hy
  refine eff_call (f := 68) (by go_simp) (cForward y p.kind) ?_
  rintro e w2 ⟨rfl, rfl⟩
  refine ⟨_, rfl, (fun y => SrcC y q s1 dv wv ∧ PduC y w.heap.size p), (fun y => Sts W (blkP w.heap.size (.cells #[.int .i64 p.kind, .int .i64 p.src, .int .i64 p.num, .int .i64 p.cls, .string p.name, .int .i64 p.size, .int .i64 p.off, .slice p.da p.data.length p.dc, .int .u32 (p.sum : Nat), .int .i64 p.code, .slice p.ga p.gaps.length p.gc] 45 (0, 0)) :: blkP q (.cells (s1.cells dv wv) 64 (0, 0)) :: rowP 5 1 dv s1.data.length (u8s s1.data) :: rowP 81 2 wv s1.wanted.length (Fil.rcells s1.wanted) :: l) y), hy, (fun y hy => ⟨Sts.srcC hy.tail, ⟨(Sts.boxCell hy 0 _ rfl).1, (Sts.boxCell hy 1 _ rfl).1, (Sts.boxCell hy 2 _ rfl).1, (Sts.boxCell hy 3 _ rfl).1, (Sts.boxCell hy 4 _ rfl).1, (Sts.boxCell hy 5 _ rfl).1, (Sts.boxCell hy 6 _ rfl).1, (Sts.boxCell hy 7 _ rfl).1, (Sts.boxCell hy 8 _ rfl).1, (Sts.boxCell hy 9 _ rfl).1, (Sts.boxCell hy 10 _ rfl).1⟩⟩), (fun _ h => h), ?_⟩
  rw [hf]
  clear hy y
  apply ord_norm
  · go_simp; rfl
  iterate 2
    (apply ord_pure (ho := rfl)
     · go_simp
     · intro x hx; obtain ⟨hC, hP⟩ := hx; have k1 := hC.k1; have k2 := hC.k2; have p0 := hP.c0; have p1 := hP.c1; have p2 := hP.c2; have p3 := hP.c3; have p4 := hP.c4; have p5 := hP.c5; have p6 := hP.c6; have p7 := hP.c7; have p8 := hP.c8; have p9 := hP.c9; have p10 := hP.c10; clear hC hP; go_simp; rfl
     apply ord_norm
     · go_simp; rfl)
  refine ord_nil fun z hz => ?_
  have k3 := (Sts.srcC hz.tail).k3
  have p0 := (Sts.boxCell hz 0 _ rfl).1
  have p9 := (Sts.boxCell hz 9 _ rfl).1
  have p10 := (Sts.boxCell hz 10 _ rfl).1
  have HZ := hid ((Sts.shutSrc (hz.perm (List.perm_middle (l₁ := [_, _, _]) (l₂ := l)).symm)))
  clear hz HB
  rw [hc] at k3
  rw [HK.out] at p0
  have hgg : ∀ A y, Sts W (A :: blkP w.heap.size (.cells #[.int .i64 p.kind, .int .i64 p.src, .int .i64 p.num, .int .i64 p.cls, .string p.name, .int .i64 p.size, .int .i64 p.off, .slice p.da p.data.length p.dc, .int .u32 (p.sum : Nat), .int .i64 p.code, .slice p.ga p.gaps.length p.gc] 45 (0, 0)) :: l) y → RdR y (.slice p.ga p.gaps.length p.gc) p.gaps := fun A y hy => HG.out A y hy.swap.tail
  have HGG := hid hgg
  clear hgg hgb
  go_wp2_with (first | (go_at_call 70; refine (cReqGo0 HBL.out q s1 HZ.out p.gaps _ HGG.out hgl hok q0 hwl).mono ?_; rintro e w2 ⟨rfl, h2⟩; have HF := hid h2.swap.tail; clear h2))
  go_ret
  exact ⟨rfl, HF.out⟩
set_option maxRecDepth 100000 in
set_option maxHeartbeats 2000000 in
theorem cTakeNak1 (hv : p.validB = true) (i1 : (p.src == s1.src) = true) (i2 : (p.num == s1.num) = true) (hf : Fil.fwdB p.kind = false) (hc : s1.cls = 2) (hk : p.kind = 4) (hok : ∀ r ∈ p.gaps, r.2 ≤ (s1.data.length : Int)) (q0 : s1.phase = 1) (hwl : s1.wanted.length < 400000) : Calls Try.prog 25 #[.pointer (some ⟨q, 0, none⟩), .agg p.cells, .int .i64 now] w fun e w' => e = .returned (.int .i64 0) ∧ Sts W (srcP q { s1.reqGo p.gaps with timer := (s1.reqGo p.gaps).now, tries := 0 } :: l) w' := by
  have HK := hid hk
  clear hk
  have HPC : p.cells = #[.int .i64 p.kind, .int .i64 p.src, .int .i64 p.num, .int .i64 p.cls, .string p.name, .int .i64 p.size, .int .i64 p.off, .slice p.da p.data.length p.dc, .int .u32 (p.sum : Nat), .int .i64 p.code, .slice p.ga p.gaps.length p.gc] := rfl
  rw [HPC]
  clear HPC
  have hls : ∀ B ∈ srcP q s :: l, Stable B := stabC (srcP_stable _ _) hl
  have hz := hs.alloc hls (.cells #[.int .i64 p.kind, .int .i64 p.src, .int .i64 p.num, .int .i64 p.cls, .string p.name, .int .i64 p.size, .int .i64 p.off, .slice p.da p.data.length p.dc, .int .u32 (p.sum : Nat), .int .i64 p.code, .slice p.ga p.gaps.length p.gc] 45)
  have hbl : ∀ B ∈ blkP w.heap.size (.cells #[.int .i64 p.kind, .int .i64 p.src, .int .i64 p.num, .int .i64 p.cls, .string p.name, .int .i64 p.size, .int .i64 p.off, .slice p.da p.data.length p.dc, .int .u32 (p.sum : Nat), .int .i64 p.code, .slice p.ga p.gaps.length p.gc] 45 (0, 0)) :: l, Stable B := stabC (blkP_stable _ _) hl
  have hP := cPass hbl q s hz.swap now
  rw [hp1] at hP
  have HP := hid hP
  obtain ⟨dv0, wv0, h0⟩ := Sts.openSrc hz.swap
  have k0 := (Sts.srcC h0).k0
  have HOK := hid (cOkS _ q k0)
  have HL := hid hl
  have HBL := hid hbl
  have HG := hid hg
  clear hP h0 hz hs hl hbl k0 hp1 hls hg
  go_enter Try.func25, Try.ntmps25
  go_wp2_with (first | (go_at_call 59; refine HOK.out.mono ?_; rintro e w2 ⟨rfl, rfl⟩) | (go_at_call 60; refine HP.out.mono ?_; rintro e w1 ⟨rfl, h1⟩; obtain ⟨dv, wv, h2⟩ := Sts.openSrc h1; have HB := hid (h2.perm (List.perm_middle (l₁ := [_, _, _]) (l₂ := l))); clear h1 h2))
  have HLB := hid (stabC (blkP_stable w.heap.size (.cells #[.int .i64 p.kind, .int .i64 p.src, .int .i64 p.num, .int .i64 p.cls, .string p.name, .int .i64 p.size, .int .i64 p.off, .slice p.da p.data.length p.dc, .int .u32 (p.sum : Nat), .int .i64 p.code, .slice p.ga p.gaps.length p.gc] 45 (0, 0))) (stabC (blkP_stable q (.cells (s1.cells dv wv) 64 (0, 0))) (stabC (rowP_stable 5 1 dv s1.data.length (u8s s1.data)) (stabC (rowP_stable 81 2 wv s1.wanted.length (Fil.rcells s1.wanted)) HL.out))))
  have hgb : ∀ y, Sts W (blkP w.heap.size (.cells #[.int .i64 p.kind, .int .i64 p.src, .int .i64 p.num, .int .i64 p.cls, .string p.name, .int .i64 p.size, .int .i64 p.off, .slice p.da p.data.length p.dc, .int .u32 (p.sum : Nat), .int .i64 p.code, .slice p.ga p.gaps.length p.gc] 45 (0, 0)) :: blkP q (.cells (s1.cells dv wv) 64 (0, 0)) :: rowP 5 1 dv s1.data.length (u8s s1.data) :: rowP 81 2 wv s1.wanted.length (Fil.rcells s1.wanted) :: l) y → RdR y (.slice p.ga p.gaps.length p.gc) p.gaps := fun y hy => HG.out _ y (Sts.shutSrc hy.tail)
  refine wp_region_ord (.pure 0 (.eff 1 (.pure 2 (.pure 3 (.pure 4 (.pure 5 (.pure 6 (.pure 7 (.pure 8 (.pure 9 (.pure 10 (.pure 11 (.pure 12 (.pure 13 (.pure 14 (.eff 15 (.pure 16 (.pure 17 .nil)))))))))))))))))) (fun y => SrcC y q s1 dv wv ∧ PduC y w.heap.size p) (fun y => Sts W (blkP w.heap.size (.cells #[.int .i64 p.kind, .int .i64 p.src, .int .i64 p.num, .int .i64 p.cls, .string p.name, .int .i64 p.size, .int .i64 p.off, .slice p.da p.data.length p.dc, .int .u32 (p.sum : Nat), .int .i64 p.code, .slice p.ga p.gaps.length p.gc] 45 (0, 0)) :: blkP q (.cells (s1.cells dv wv) 64 (0, 0)) :: rowP 5 1 dv s1.data.length (u8s s1.data) :: rowP 81 2 wv s1.wanted.length (Fil.rcells s1.wanted) :: l) y) (by kernel_rfl) (by kernel_rfl) (HB.out.drew HLB.out) (fun y hy => ⟨Sts.srcC hy.tail, ⟨(Sts.boxCell hy 0 _ rfl).1, (Sts.boxCell hy 1 _ rfl).1, (Sts.boxCell hy 2 _ rfl).1, (Sts.boxCell hy 3 _ rfl).1, (Sts.boxCell hy 4 _ rfl).1, (Sts.boxCell hy 5 _ rfl).1, (Sts.boxCell hy 6 _ rfl).1, (Sts.boxCell hy 7 _ rfl).1, (Sts.boxCell hy 8 _ rfl).1, (Sts.boxCell hy 9 _ rfl).1, (Sts.boxCell hy 10 _ rfl).1⟩⟩) ?_
  apply ord_pure (ho := rfl)
  · go_simp
  · intro x hx; obtain ⟨hC, hP⟩ := hx; have k1 := hC.k1; have k2 := hC.k2; have p0 := hP.c0; have p1 := hP.c1; have p2 := hP.c2; have p3 := hP.c3; have p4 := hP.c4; have p5 := hP.c5; have p6 := hP.c6; have p7 := hP.c7; have p8 := hP.c8; have p9 := hP.c9; have p10 := hP.c10; clear hC hP; go_simp; rfl
  apply ord_norm
  · go_simp; rfl
  apply ord_eff (ho := rfl)
  · go_simp
  intro y hy
  refine eff_call (f := 54) (by go_simp; rfl) (cValid y p hname hdata (by omega) (hgb y hy)) ?_
  rintro e w2 ⟨rfl, hb⟩
  refine ⟨_, rfl, (fun y => SrcC y q s1 dv wv ∧ PduC y w.heap.size p), (fun y => Sts W (blkP w.heap.size (.cells #[.int .i64 p.kind, .int .i64 p.src, .int .i64 p.num, .int .i64 p.cls, .string p.name, .int .i64 p.size, .int .i64 p.off, .slice p.da p.data.length p.dc, .int .u32 (p.sum : Nat), .int .i64 p.code, .slice p.ga p.gaps.length p.gc] 45 (0, 0)) :: blkP q (.cells (s1.cells dv wv) 64 (0, 0)) :: rowP 5 1 dv s1.data.length (u8s s1.data) :: rowP 81 2 wv s1.wanted.length (Fil.rcells s1.wanted) :: l) y), hy.quiet HLB.out hb, (fun y hy => ⟨Sts.srcC hy.tail, ⟨(Sts.boxCell hy 0 _ rfl).1, (Sts.boxCell hy 1 _ rfl).1, (Sts.boxCell hy 2 _ rfl).1, (Sts.boxCell hy 3 _ rfl).1, (Sts.boxCell hy 4 _ rfl).1, (Sts.boxCell hy 5 _ rfl).1, (Sts.boxCell hy 6 _ rfl).1, (Sts.boxCell hy 7 _ rfl).1, (Sts.boxCell hy 8 _ rfl).1, (Sts.boxCell hy 9 _ rfl).1, (Sts.boxCell hy 10 _ rfl).1⟩⟩), (fun _ h => h), ?_⟩
  rw [hv]
  clear hb hy y
  apply ord_norm
  · go_simp; rfl
  iterate 2
    (apply ord_pure (ho := rfl)
     · go_simp
     · intro x hx; obtain ⟨hC, hP⟩ := hx; have k1 := hC.k1; have k2 := hC.k2; have p0 := hP.c0; have p1 := hP.c1; have p2 := hP.c2; have p3 := hP.c3; have p4 := hP.c4; have p5 := hP.c5; have p6 := hP.c6; have p7 := hP.c7; have p8 := hP.c8; have p9 := hP.c9; have p10 := hP.c10; clear hC hP; go_simp; rfl
     apply ord_norm
     · go_simp; rfl)
  iterate 7
    (apply ord_pure (ho := rfl)
     · go_simp
     · intro x hx; obtain ⟨hC, hP⟩ := hx; have k1 := hC.k1; have k2 := hC.k2; have p0 := hP.c0; have p1 := hP.c1; have p2 := hP.c2; have p3 := hP.c3; have p4 := hP.c4; have p5 := hP.c5; have p6 := hP.c6; have p7 := hP.c7; have p8 := hP.c8; have p9 := hP.c9; have p10 := hP.c10; clear hC hP; go_simp; rfl
     apply ord_norm
     · go_simp; rfl)
  iterate 2
    (apply ord_pure (ho := rfl)
     · go_simp
     · intro x hx; obtain ⟨hC, hP⟩ := hx; have k1 := hC.k1; have k2 := hC.k2; have p0 := hP.c0; have p1 := hP.c1; have p2 := hP.c2; have p3 := hP.c3; have p4 := hP.c4; have p5 := hP.c5; have p6 := hP.c6; have p7 := hP.c7; have p8 := hP.c8; have p9 := hP.c9; have p10 := hP.c10; clear hC hP; go_simp; rfl
     apply ord_norm
     · go_simp; rfl)
  iterate 2
    (apply ord_pure (ho := rfl)
     · go_simp
     · intro x hx; obtain ⟨hC, hP⟩ := hx; have k1 := hC.k1; have k2 := hC.k2; have p0 := hP.c0; have p1 := hP.c1; have p2 := hP.c2; have p3 := hP.c3; have p4 := hP.c4; have p5 := hP.c5; have p6 := hP.c6; have p7 := hP.c7; have p8 := hP.c8; have p9 := hP.c9; have p10 := hP.c10; clear hC hP; go_simp; rfl
     apply ord_norm
     · go_simp; rfl)
  apply ord_eff (ho := rfl)
  · go_simp
  intro y hy
  refine eff_call (f := 68) (by go_simp) (cForward y p.kind) ?_
  rintro e w2 ⟨rfl, rfl⟩
  refine ⟨_, rfl, (fun y => SrcC y q s1 dv wv ∧ PduC y w.heap.size p), (fun y => Sts W (blkP w.heap.size (.cells #[.int .i64 p.kind, .int .i64 p.src, .int .i64 p.num, .int .i64 p.cls, .string p.name, .int .i64 p.size, .int .i64 p.off, .slice p.da p.data.length p.dc, .int .u32 (p.sum : Nat), .int .i64 p.code, .slice p.ga p.gaps.length p.gc] 45 (0, 0)) :: blkP q (.cells (s1.cells dv wv) 64 (0, 0)) :: rowP 5 1 dv s1.data.length (u8s s1.data) :: rowP 81 2 wv s1.wanted.length (Fil.rcells s1.wanted) :: l) y), hy, (fun y hy => ⟨Sts.srcC hy.tail, ⟨(Sts.boxCell hy 0 _ rfl).1, (Sts.boxCell hy 1 _ rfl).1, (Sts.boxCell hy 2 _ rfl).1, (Sts.boxCell hy 3 _ rfl).1, (Sts.boxCell hy 4 _ rfl).1, (Sts.boxCell hy 5 _ rfl).1, (Sts.boxCell hy 6 _ rfl).1, (Sts.boxCell hy 7 _ rfl).1, (Sts.boxCell hy 8 _ rfl).1, (Sts.boxCell hy 9 _ rfl).1, (Sts.boxCell hy 10 _ rfl).1⟩⟩), (fun _ h => h), ?_⟩
  rw [hf]
  clear hy y
  apply ord_norm
  · go_simp; rfl
  iterate 2
    (apply ord_pure (ho := rfl)
     · go_simp
     · intro x hx; obtain ⟨hC, hP⟩ := hx; have k1 := hC.k1; have k2 := hC.k2; have p0 := hP.c0; have p1 := hP.c1; have p2 := hP.c2; have p3 := hP.c3; have p4 := hP.c4; have p5 := hP.c5; have p6 := hP.c6; have p7 := hP.c7; have p8 := hP.c8; have p9 := hP.c9; have p10 := hP.c10; clear hC hP; go_simp; rfl
     apply ord_norm
     · go_simp; rfl)
  refine ord_nil fun z hz => ?_
  have k3 := (Sts.srcC hz.tail).k3
  have p0 := (Sts.boxCell hz 0 _ rfl).1
  have p9 := (Sts.boxCell hz 9 _ rfl).1
  have p10 := (Sts.boxCell hz 10 _ rfl).1
  have HZ := hid ((Sts.shutSrc (hz.perm (List.perm_middle (l₁ := [_, _, _]) (l₂ := l)).symm)))
  clear hz HB
  rw [hc] at k3
  rw [HK.out] at p0
  have hgg : ∀ A y, Sts W (A :: blkP w.heap.size (.cells #[.int .i64 p.kind, .int .i64 p.src, .int .i64 p.num, .int .i64 p.cls, .string p.name, .int .i64 p.size, .int .i64 p.off, .slice p.da p.data.length p.dc, .int .u32 (p.sum : Nat), .int .i64 p.code, .slice p.ga p.gaps.length p.gc] 45 (0, 0)) :: l) y → RdR y (.slice p.ga p.gaps.length p.gc) p.gaps := fun A y hy => HG.out A y hy.swap.tail
  have HGG := hid hgg
  clear hgg hgb
  go_wp2_with (first | (go_at_call 70; refine (cReqGo1 HBL.out q s1 HZ.out p.gaps _ HGG.out hgl hok q0 hwl).mono ?_; rintro e w2 ⟨rfl, h2⟩; have HF := hid h2.swap.tail; clear h2))
  go_ret
  exact ⟨rfl, HF.out⟩
set_option maxRecDepth 100000 in
set_option maxHeartbeats 2000000 in
theorem cTakeFin2 (hv : p.validB = true) (i1 : (p.src == s1.src) = true) (i2 : (p.num == s1.num) = true) (hf : Fil.fwdB p.kind = false) (hc : s1.cls = 2) (hk6 : (p.kind == 6) = false) (hk4 : (p.kind == 4) = false) (c1 : s1.phase = 2) : Calls Try.prog 25 #[.pointer (some ⟨q, 0, none⟩), .agg p.cells, .int .i64 now] w fun e w' => e = .returned (.int .i64 0) ∧ Sts W (srcP q s1 :: l) w' := by
  have HPC : p.cells = #[.int .i64 p.kind, .int .i64 p.src, .int .i64 p.num, .int .i64 p.cls, .string p.name, .int .i64 p.size, .int .i64 p.off, .slice p.da p.data.length p.dc, .int .u32 (p.sum : Nat), .int .i64 p.code, .slice p.ga p.gaps.length p.gc] := rfl
  rw [HPC]
  clear HPC
  have hls : ∀ B ∈ srcP q s :: l, Stable B := stabC (srcP_stable _ _) hl
  have hz := hs.alloc hls (.cells #[.int .i64 p.kind, .int .i64 p.src, .int .i64 p.num, .int .i64 p.cls, .string p.name, .int .i64 p.size, .int .i64 p.off, .slice p.da p.data.length p.dc, .int .u32 (p.sum : Nat), .int .i64 p.code, .slice p.ga p.gaps.length p.gc] 45)
  have hbl : ∀ B ∈ blkP w.heap.size (.cells #[.int .i64 p.kind, .int .i64 p.src, .int .i64 p.num, .int .i64 p.cls, .string p.name, .int .i64 p.size, .int .i64 p.off, .slice p.da p.data.length p.dc, .int .u32 (p.sum : Nat), .int .i64 p.code, .slice p.ga p.gaps.length p.gc] 45 (0, 0)) :: l, Stable B := stabC (blkP_stable _ _) hl
  have hP := cPass hbl q s hz.swap now
  rw [hp1] at hP
  have HP := hid hP
  obtain ⟨dv0, wv0, h0⟩ := Sts.openSrc hz.swap
  have k0 := (Sts.srcC h0).k0
  have HOK := hid (cOkS _ q k0)
  have HL := hid hl
  have HBL := hid hbl
  have HG := hid hg
  clear hP h0 hz hs hl hbl k0 hp1 hls hg
  go_enter Try.func25, Try.ntmps25
  go_wp2_with (first | (go_at_call 59; refine HOK.out.mono ?_; rintro e w2 ⟨rfl, rfl⟩) | (go_at_call 60; refine HP.out.mono ?_; rintro e w1 ⟨rfl, h1⟩; obtain ⟨dv, wv, h2⟩ := Sts.openSrc h1; have HB := hid (h2.perm (List.perm_middle (l₁ := [_, _, _]) (l₂ := l))); clear h1 h2))
  have HLB := hid (stabC (blkP_stable w.heap.size (.cells #[.int .i64 p.kind, .int .i64 p.src, .int .i64 p.num, .int .i64 p.cls, .string p.name, .int .i64 p.size, .int .i64 p.off, .slice p.da p.data.length p.dc, .int .u32 (p.sum : Nat), .int .i64 p.code, .slice p.ga p.gaps.length p.gc] 45 (0, 0))) (stabC (blkP_stable q (.cells (s1.cells dv wv) 64 (0, 0))) (stabC (rowP_stable 5 1 dv s1.data.length (u8s s1.data)) (stabC (rowP_stable 81 2 wv s1.wanted.length (Fil.rcells s1.wanted)) HL.out))))
  have hgb : ∀ y, Sts W (blkP w.heap.size (.cells #[.int .i64 p.kind, .int .i64 p.src, .int .i64 p.num, .int .i64 p.cls, .string p.name, .int .i64 p.size, .int .i64 p.off, .slice p.da p.data.length p.dc, .int .u32 (p.sum : Nat), .int .i64 p.code, .slice p.ga p.gaps.length p.gc] 45 (0, 0)) :: blkP q (.cells (s1.cells dv wv) 64 (0, 0)) :: rowP 5 1 dv s1.data.length (u8s s1.data) :: rowP 81 2 wv s1.wanted.length (Fil.rcells s1.wanted) :: l) y → RdR y (.slice p.ga p.gaps.length p.gc) p.gaps := fun y hy => HG.out _ y (Sts.shutSrc hy.tail)
  refine wp_region_ord (.pure 0 (.eff 1 (.pure 2 (.pure 3 (.pure 4 (.pure 5 (.pure 6 (.pure 7 (.pure 8 (.pure 9 (.pure 10 (.pure 11 (.pure 12 (.pure 13 (.pure 14 (.eff 15 (.pure 16 (.pure 17 .nil)))))))))))))))))) (fun y => SrcC y q s1 dv wv ∧ PduC y w.heap.size p) (fun y => Sts W (blkP w.heap.size (.cells #[.int .i64 p.kind, .int .i64 p.src, .int .i64 p.num, .int .i64 p.cls, .string p.name, .int .i64 p.size, .int .i64 p.off, .slice p.da p.data.length p.dc, .int .u32 (p.sum : Nat), .int .i64 p.code, .slice p.ga p.gaps.length p.gc] 45 (0, 0)) :: blkP q (.cells (s1.cells dv wv) 64 (0, 0)) :: rowP 5 1 dv s1.data.length (u8s s1.data) :: rowP 81 2 wv s1.wanted.length (Fil.rcells s1.wanted) :: l) y) (by kernel_rfl) (by kernel_rfl) (HB.out.drew HLB.out) (fun y hy => ⟨Sts.srcC hy.tail, ⟨(Sts.boxCell hy 0 _ rfl).1, (Sts.boxCell hy 1 _ rfl).1, (Sts.boxCell hy 2 _ rfl).1, (Sts.boxCell hy 3 _ rfl).1, (Sts.boxCell hy 4 _ rfl).1, (Sts.boxCell hy 5 _ rfl).1, (Sts.boxCell hy 6 _ rfl).1, (Sts.boxCell hy 7 _ rfl).1, (Sts.boxCell hy 8 _ rfl).1, (Sts.boxCell hy 9 _ rfl).1, (Sts.boxCell hy 10 _ rfl).1⟩⟩) ?_
  apply ord_pure (ho := rfl)
  · go_simp
  · intro x hx; obtain ⟨hC, hP⟩ := hx; have k1 := hC.k1; have k2 := hC.k2; have p0 := hP.c0; have p1 := hP.c1; have p2 := hP.c2; have p3 := hP.c3; have p4 := hP.c4; have p5 := hP.c5; have p6 := hP.c6; have p7 := hP.c7; have p8 := hP.c8; have p9 := hP.c9; have p10 := hP.c10; clear hC hP; go_simp; rfl
  apply ord_norm
  · go_simp; rfl
  apply ord_eff (ho := rfl)
  · go_simp
  intro y hy
  refine eff_call (f := 54) (by go_simp; rfl) (cValid y p hname hdata (by omega) (hgb y hy)) ?_
  rintro e w2 ⟨rfl, hb⟩
  refine ⟨_, rfl, (fun y => SrcC y q s1 dv wv ∧ PduC y w.heap.size p), (fun y => Sts W (blkP w.heap.size (.cells #[.int .i64 p.kind, .int .i64 p.src, .int .i64 p.num, .int .i64 p.cls, .string p.name, .int .i64 p.size, .int .i64 p.off, .slice p.da p.data.length p.dc, .int .u32 (p.sum : Nat), .int .i64 p.code, .slice p.ga p.gaps.length p.gc] 45 (0, 0)) :: blkP q (.cells (s1.cells dv wv) 64 (0, 0)) :: rowP 5 1 dv s1.data.length (u8s s1.data) :: rowP 81 2 wv s1.wanted.length (Fil.rcells s1.wanted) :: l) y), hy.quiet HLB.out hb, (fun y hy => ⟨Sts.srcC hy.tail, ⟨(Sts.boxCell hy 0 _ rfl).1, (Sts.boxCell hy 1 _ rfl).1, (Sts.boxCell hy 2 _ rfl).1, (Sts.boxCell hy 3 _ rfl).1, (Sts.boxCell hy 4 _ rfl).1, (Sts.boxCell hy 5 _ rfl).1, (Sts.boxCell hy 6 _ rfl).1, (Sts.boxCell hy 7 _ rfl).1, (Sts.boxCell hy 8 _ rfl).1, (Sts.boxCell hy 9 _ rfl).1, (Sts.boxCell hy 10 _ rfl).1⟩⟩), (fun _ h => h), ?_⟩
  rw [hv]
  clear hb hy y
  apply ord_norm
  · go_simp; rfl
  iterate 2
    (apply ord_pure (ho := rfl)
     · go_simp
     · intro x hx; obtain ⟨hC, hP⟩ := hx; have k1 := hC.k1; have k2 := hC.k2; have p0 := hP.c0; have p1 := hP.c1; have p2 := hP.c2; have p3 := hP.c3; have p4 := hP.c4; have p5 := hP.c5; have p6 := hP.c6; have p7 := hP.c7; have p8 := hP.c8; have p9 := hP.c9; have p10 := hP.c10; clear hC hP; go_simp; rfl
     apply ord_norm
     · go_simp; rfl)
  iterate 7
    (apply ord_pure (ho := rfl)
     · go_simp
     · intro x hx; obtain ⟨hC, hP⟩ := hx; have k1 := hC.k1; have k2 := hC.k2; have p0 := hP.c0; have p1 := hP.c1; have p2 := hP.c2; have p3 := hP.c3; have p4 := hP.c4; have p5 := hP.c5; have p6 := hP.c6; have p7 := hP.c7; have p8 := hP.c8; have p9 := hP.c9; have p10 := hP.c10; clear hC hP; go_simp; rfl
     apply ord_norm
     · go_simp; rfl)
  iterate 2
    (apply ord_pure (ho := rfl)
     · go_simp
     · intro x hx; obtain ⟨hC, hP⟩ := hx; have k1 := hC.k1; have k2 := hC.k2; have p0 := hP.c0; have p1 := hP.c1; have p2 := hP.c2; have p3 := hP.c3; have p4 := hP.c4; have p5 := hP.c5; have p6 := hP.c6; have p7 := hP.c7; have p8 := hP.c8; have p9 := hP.c9; have p10 := hP.c10; clear hC hP; go_simp; rfl
     apply ord_norm
     · go_simp; rfl)
  iterate 2
    (apply ord_pure (ho := rfl)
     · go_simp
     · intro x hx; obtain ⟨hC, hP⟩ := hx; have k1 := hC.k1; have k2 := hC.k2; have p0 := hP.c0; have p1 := hP.c1; have p2 := hP.c2; have p3 := hP.c3; have p4 := hP.c4; have p5 := hP.c5; have p6 := hP.c6; have p7 := hP.c7; have p8 := hP.c8; have p9 := hP.c9; have p10 := hP.c10; clear hC hP; go_simp; rfl
     apply ord_norm
     · go_simp; rfl)
  apply ord_eff (ho := rfl)
  · go_simp
  intro y hy
  refine eff_call (f := 68) (by go_simp) (cForward y p.kind) ?_
  rintro e w2 ⟨rfl, rfl⟩
  refine ⟨_, rfl, (fun y => SrcC y q s1 dv wv ∧ PduC y w.heap.size p), (fun y => Sts W (blkP w.heap.size (.cells #[.int .i64 p.kind, .int .i64 p.src, .int .i64 p.num, .int .i64 p.cls, .string p.name, .int .i64 p.size, .int .i64 p.off, .slice p.da p.data.length p.dc, .int .u32 (p.sum : Nat), .int .i64 p.code, .slice p.ga p.gaps.length p.gc] 45 (0, 0)) :: blkP q (.cells (s1.cells dv wv) 64 (0, 0)) :: rowP 5 1 dv s1.data.length (u8s s1.data) :: rowP 81 2 wv s1.wanted.length (Fil.rcells s1.wanted) :: l) y), hy, (fun y hy => ⟨Sts.srcC hy.tail, ⟨(Sts.boxCell hy 0 _ rfl).1, (Sts.boxCell hy 1 _ rfl).1, (Sts.boxCell hy 2 _ rfl).1, (Sts.boxCell hy 3 _ rfl).1, (Sts.boxCell hy 4 _ rfl).1, (Sts.boxCell hy 5 _ rfl).1, (Sts.boxCell hy 6 _ rfl).1, (Sts.boxCell hy 7 _ rfl).1, (Sts.boxCell hy 8 _ rfl).1, (Sts.boxCell hy 9 _ rfl).1, (Sts.boxCell hy 10 _ rfl).1⟩⟩), (fun _ h => h), ?_⟩
  rw [hf]
  clear hy y
  apply ord_norm
  · go_simp; rfl
  iterate 2
    (apply ord_pure (ho := rfl)
     · go_simp
     · intro x hx; obtain ⟨hC, hP⟩ := hx; have k1 := hC.k1; have k2 := hC.k2; have p0 := hP.c0; have p1 := hP.c1; have p2 := hP.c2; have p3 := hP.c3; have p4 := hP.c4; have p5 := hP.c5; have p6 := hP.c6; have p7 := hP.c7; have p8 := hP.c8; have p9 := hP.c9; have p10 := hP.c10; clear hC hP; go_simp; rfl
     apply ord_norm
     · go_simp; rfl)
  refine ord_nil fun z hz => ?_
  have k3 := (Sts.srcC hz.tail).k3
  have p0 := (Sts.boxCell hz 0 _ rfl).1
  have p9 := (Sts.boxCell hz 9 _ rfl).1
  have p10 := (Sts.boxCell hz 10 _ rfl).1
  have HZ := hid ((Sts.shutSrc (hz.perm (List.perm_middle (l₁ := [_, _, _]) (l₂ := l)).symm)))
  clear hz HB
  rw [hc] at k3
  go_wp2_with (first | (go_at_call 71; refine (cFin2 HBL.out q s1 HZ.out p.code c1).mono ?_; rintro e w2 ⟨rfl, h2⟩; have HF := hid h2.swap.tail; clear h2))
  go_ret
  exact ⟨rfl, HF.out⟩
set_option maxRecDepth 100000 in
set_option maxHeartbeats 2000000 in
theorem cTakeFin3 (hv : p.validB = true) (i1 : (p.src == s1.src) = true) (i2 : (p.num == s1.num) = true) (hf : Fil.fwdB p.kind = false) (hc : s1.cls = 2) (hk6 : (p.kind == 6) = false) (hk4 : (p.kind == 4) = false) (c0 : (s1.phase == 0) = false) (c1 : (s1.phase == 1) = false) (c2 : (s1.phase == 2) = false) : Calls Try.prog 25 #[.pointer (some ⟨q, 0, none⟩), .agg p.cells, .int .i64 now] w fun e w' => e = .returned (.int .i64 0) ∧ Sts W (srcP q { s1 with due := true } :: l) w' := by
  have HPC : p.cells = #[.int .i64 p.kind, .int .i64 p.src, .int .i64 p.num, .int .i64 p.cls, .string p.name, .int .i64 p.size, .int .i64 p.off, .slice p.da p.data.length p.dc, .int .u32 (p.sum : Nat), .int .i64 p.code, .slice p.ga p.gaps.length p.gc] := rfl
  rw [HPC]
  clear HPC
  have hls : ∀ B ∈ srcP q s :: l, Stable B := stabC (srcP_stable _ _) hl
  have hz := hs.alloc hls (.cells #[.int .i64 p.kind, .int .i64 p.src, .int .i64 p.num, .int .i64 p.cls, .string p.name, .int .i64 p.size, .int .i64 p.off, .slice p.da p.data.length p.dc, .int .u32 (p.sum : Nat), .int .i64 p.code, .slice p.ga p.gaps.length p.gc] 45)
  have hbl : ∀ B ∈ blkP w.heap.size (.cells #[.int .i64 p.kind, .int .i64 p.src, .int .i64 p.num, .int .i64 p.cls, .string p.name, .int .i64 p.size, .int .i64 p.off, .slice p.da p.data.length p.dc, .int .u32 (p.sum : Nat), .int .i64 p.code, .slice p.ga p.gaps.length p.gc] 45 (0, 0)) :: l, Stable B := stabC (blkP_stable _ _) hl
  have hP := cPass hbl q s hz.swap now
  rw [hp1] at hP
  have HP := hid hP
  obtain ⟨dv0, wv0, h0⟩ := Sts.openSrc hz.swap
  have k0 := (Sts.srcC h0).k0
  have HOK := hid (cOkS _ q k0)
  have HL := hid hl
  have HBL := hid hbl
  have HG := hid hg
  clear hP h0 hz hs hl hbl k0 hp1 hls hg
  go_enter Try.func25, Try.ntmps25
  go_wp2_with (first | (go_at_call 59; refine HOK.out.mono ?_; rintro e w2 ⟨rfl, rfl⟩) | (go_at_call 60; refine HP.out.mono ?_; rintro e w1 ⟨rfl, h1⟩; obtain ⟨dv, wv, h2⟩ := Sts.openSrc h1; have HB := hid (h2.perm (List.perm_middle (l₁ := [_, _, _]) (l₂ := l))); clear h1 h2))
  have HLB := hid (stabC (blkP_stable w.heap.size (.cells #[.int .i64 p.kind, .int .i64 p.src, .int .i64 p.num, .int .i64 p.cls, .string p.name, .int .i64 p.size, .int .i64 p.off, .slice p.da p.data.length p.dc, .int .u32 (p.sum : Nat), .int .i64 p.code, .slice p.ga p.gaps.length p.gc] 45 (0, 0))) (stabC (blkP_stable q (.cells (s1.cells dv wv) 64 (0, 0))) (stabC (rowP_stable 5 1 dv s1.data.length (u8s s1.data)) (stabC (rowP_stable 81 2 wv s1.wanted.length (Fil.rcells s1.wanted)) HL.out))))
  have hgb : ∀ y, Sts W (blkP w.heap.size (.cells #[.int .i64 p.kind, .int .i64 p.src, .int .i64 p.num, .int .i64 p.cls, .string p.name, .int .i64 p.size, .int .i64 p.off, .slice p.da p.data.length p.dc, .int .u32 (p.sum : Nat), .int .i64 p.code, .slice p.ga p.gaps.length p.gc] 45 (0, 0)) :: blkP q (.cells (s1.cells dv wv) 64 (0, 0)) :: rowP 5 1 dv s1.data.length (u8s s1.data) :: rowP 81 2 wv s1.wanted.length (Fil.rcells s1.wanted) :: l) y → RdR y (.slice p.ga p.gaps.length p.gc) p.gaps := fun y hy => HG.out _ y (Sts.shutSrc hy.tail)
  refine wp_region_ord (.pure 0 (.eff 1 (.pure 2 (.pure 3 (.pure 4 (.pure 5 (.pure 6 (.pure 7 (.pure 8 (.pure 9 (.pure 10 (.pure 11 (.pure 12 (.pure 13 (.pure 14 (.eff 15 (.pure 16 (.pure 17 .nil)))))))))))))))))) (fun y => SrcC y q s1 dv wv ∧ PduC y w.heap.size p) (fun y => Sts W (blkP w.heap.size (.cells #[.int .i64 p.kind, .int .i64 p.src, .int .i64 p.num, .int .i64 p.cls, .string p.name, .int .i64 p.size, .int .i64 p.off, .slice p.da p.data.length p.dc, .int .u32 (p.sum : Nat), .int .i64 p.code, .slice p.ga p.gaps.length p.gc] 45 (0, 0)) :: blkP q (.cells (s1.cells dv wv) 64 (0, 0)) :: rowP 5 1 dv s1.data.length (u8s s1.data) :: rowP 81 2 wv s1.wanted.length (Fil.rcells s1.wanted) :: l) y) (by kernel_rfl) (by kernel_rfl) (HB.out.drew HLB.out) (fun y hy => ⟨Sts.srcC hy.tail, ⟨(Sts.boxCell hy 0 _ rfl).1, (Sts.boxCell hy 1 _ rfl).1, (Sts.boxCell hy 2 _ rfl).1, (Sts.boxCell hy 3 _ rfl).1, (Sts.boxCell hy 4 _ rfl).1, (Sts.boxCell hy 5 _ rfl).1, (Sts.boxCell hy 6 _ rfl).1, (Sts.boxCell hy 7 _ rfl).1, (Sts.boxCell hy 8 _ rfl).1, (Sts.boxCell hy 9 _ rfl).1, (Sts.boxCell hy 10 _ rfl).1⟩⟩) ?_
  apply ord_pure (ho := rfl)
  · go_simp
  · intro x hx; obtain ⟨hC, hP⟩ := hx; have k1 := hC.k1; have k2 := hC.k2; have p0 := hP.c0; have p1 := hP.c1; have p2 := hP.c2; have p3 := hP.c3; have p4 := hP.c4; have p5 := hP.c5; have p6 := hP.c6; have p7 := hP.c7; have p8 := hP.c8; have p9 := hP.c9; have p10 := hP.c10; clear hC hP; go_simp; rfl
  apply ord_norm
  · go_simp; rfl
  apply ord_eff (ho := rfl)
  · go_simp
  intro y hy
  refine eff_call (f := 54) (by go_simp; rfl) (cValid y p hname hdata (by omega) (hgb y hy)) ?_
  rintro e w2 ⟨rfl, hb⟩
  refine ⟨_, rfl, (fun y => SrcC y q s1 dv wv ∧ PduC y w.heap.size p), (fun y => Sts W (blkP w.heap.size (.cells #[.int .i64 p.kind, .int .i64 p.src, .int .i64 p.num, .int .i64 p.cls, .string p.name, .int .i64 p.size, .int .i64 p.off, .slice p.da p.data.length p.dc, .int .u32 (p.sum : Nat), .int .i64 p.code, .slice p.ga p.gaps.length p.gc] 45 (0, 0)) :: blkP q (.cells (s1.cells dv wv) 64 (0, 0)) :: rowP 5 1 dv s1.data.length (u8s s1.data) :: rowP 81 2 wv s1.wanted.length (Fil.rcells s1.wanted) :: l) y), hy.quiet HLB.out hb, (fun y hy => ⟨Sts.srcC hy.tail, ⟨(Sts.boxCell hy 0 _ rfl).1, (Sts.boxCell hy 1 _ rfl).1, (Sts.boxCell hy 2 _ rfl).1, (Sts.boxCell hy 3 _ rfl).1, (Sts.boxCell hy 4 _ rfl).1, (Sts.boxCell hy 5 _ rfl).1, (Sts.boxCell hy 6 _ rfl).1, (Sts.boxCell hy 7 _ rfl).1, (Sts.boxCell hy 8 _ rfl).1, (Sts.boxCell hy 9 _ rfl).1, (Sts.boxCell hy 10 _ rfl).1⟩⟩), (fun _ h => h), ?_⟩
  rw [hv]
  clear hb hy y
  apply ord_norm
  · go_simp; rfl
  iterate 2
    (apply ord_pure (ho := rfl)
     · go_simp
     · intro x hx; obtain ⟨hC, hP⟩ := hx; have k1 := hC.k1; have k2 := hC.k2; have p0 := hP.c0; have p1 := hP.c1; have p2 := hP.c2; have p3 := hP.c3; have p4 := hP.c4; have p5 := hP.c5; have p6 := hP.c6; have p7 := hP.c7; have p8 := hP.c8; have p9 := hP.c9; have p10 := hP.c10; clear hC hP; go_simp; rfl
     apply ord_norm
     · go_simp; rfl)
  iterate 7
    (apply ord_pure (ho := rfl)
     · go_simp
     · intro x hx; obtain ⟨hC, hP⟩ := hx; have k1 := hC.k1; have k2 := hC.k2; have p0 := hP.c0; have p1 := hP.c1; have p2 := hP.c2; have p3 := hP.c3; have p4 := hP.c4; have p5 := hP.c5; have p6 := hP.c6; have p7 := hP.c7; have p8 := hP.c8; have p9 := hP.c9; have p10 := hP.c10; clear hC hP; go_simp; rfl
     apply ord_norm
     · go_simp; rfl)
  iterate 2
    (apply ord_pure (ho := rfl)
     · go_simp
     · intro x hx; obtain ⟨hC, hP⟩ := hx; have k1 := hC.k1; have k2 := hC.k2; have p0 := hP.c0; have p1 := hP.c1; have p2 := hP.c2; have p3 := hP.c3; have p4 := hP.c4; have p5 := hP.c5; have p6 := hP.c6; have p7 := hP.c7; have p8 := hP.c8; have p9 := hP.c9; have p10 := hP.c10; clear hC hP; go_simp; rfl
     apply ord_norm
     · go_simp; rfl)
  iterate 2
    (apply ord_pure (ho := rfl)
     · go_simp
     · intro x hx; obtain ⟨hC, hP⟩ := hx; have k1 := hC.k1; have k2 := hC.k2; have p0 := hP.c0; have p1 := hP.c1; have p2 := hP.c2; have p3 := hP.c3; have p4 := hP.c4; have p5 := hP.c5; have p6 := hP.c6; have p7 := hP.c7; have p8 := hP.c8; have p9 := hP.c9; have p10 := hP.c10; clear hC hP; go_simp; rfl
     apply ord_norm
     · go_simp; rfl)
  apply ord_eff (ho := rfl)
  · go_simp
  intro y hy
  refine eff_call (f := 68) (by go_simp) (cForward y p.kind) ?_
  rintro e w2 ⟨rfl, rfl⟩
  refine ⟨_, rfl, (fun y => SrcC y q s1 dv wv ∧ PduC y w.heap.size p), (fun y => Sts W (blkP w.heap.size (.cells #[.int .i64 p.kind, .int .i64 p.src, .int .i64 p.num, .int .i64 p.cls, .string p.name, .int .i64 p.size, .int .i64 p.off, .slice p.da p.data.length p.dc, .int .u32 (p.sum : Nat), .int .i64 p.code, .slice p.ga p.gaps.length p.gc] 45 (0, 0)) :: blkP q (.cells (s1.cells dv wv) 64 (0, 0)) :: rowP 5 1 dv s1.data.length (u8s s1.data) :: rowP 81 2 wv s1.wanted.length (Fil.rcells s1.wanted) :: l) y), hy, (fun y hy => ⟨Sts.srcC hy.tail, ⟨(Sts.boxCell hy 0 _ rfl).1, (Sts.boxCell hy 1 _ rfl).1, (Sts.boxCell hy 2 _ rfl).1, (Sts.boxCell hy 3 _ rfl).1, (Sts.boxCell hy 4 _ rfl).1, (Sts.boxCell hy 5 _ rfl).1, (Sts.boxCell hy 6 _ rfl).1, (Sts.boxCell hy 7 _ rfl).1, (Sts.boxCell hy 8 _ rfl).1, (Sts.boxCell hy 9 _ rfl).1, (Sts.boxCell hy 10 _ rfl).1⟩⟩), (fun _ h => h), ?_⟩
  rw [hf]
  clear hy y
  apply ord_norm
  · go_simp; rfl
  iterate 2
    (apply ord_pure (ho := rfl)
     · go_simp
     · intro x hx; obtain ⟨hC, hP⟩ := hx; have k1 := hC.k1; have k2 := hC.k2; have p0 := hP.c0; have p1 := hP.c1; have p2 := hP.c2; have p3 := hP.c3; have p4 := hP.c4; have p5 := hP.c5; have p6 := hP.c6; have p7 := hP.c7; have p8 := hP.c8; have p9 := hP.c9; have p10 := hP.c10; clear hC hP; go_simp; rfl
     apply ord_norm
     · go_simp; rfl)
  refine ord_nil fun z hz => ?_
  have k3 := (Sts.srcC hz.tail).k3
  have p0 := (Sts.boxCell hz 0 _ rfl).1
  have p9 := (Sts.boxCell hz 9 _ rfl).1
  have p10 := (Sts.boxCell hz 10 _ rfl).1
  have HZ := hid ((Sts.shutSrc (hz.perm (List.perm_middle (l₁ := [_, _, _]) (l₂ := l)).symm)))
  clear hz HB
  rw [hc] at k3
  go_wp2_with (first | (go_at_call 71; refine (cFin3 HBL.out q s1 HZ.out p.code c0 c1 c2).mono ?_; rintro e w2 ⟨rfl, h2⟩; have HF := hid h2.swap.tail; clear h2))
  go_ret
  exact ⟨rfl, HF.out⟩
set_option maxRecDepth 100000 in
set_option maxHeartbeats 2000000 in
theorem cTakeFinA (hv : p.validB = true) (i1 : (p.src == s1.src) = true) (i2 : (p.num == s1.num) = true) (hf : Fil.fwdB p.kind = false) (hc : s1.cls = 2) (hk6 : (p.kind == 6) = false) (hk4 : (p.kind == 4) = false) (c1 : s1.phase = 0) : Calls Try.prog 25 #[.pointer (some ⟨q, 0, none⟩), .agg p.cells, .int .i64 now] w fun e w' => e = .returned (.int .i64 0) ∧ Sts W (srcP q { s1 with phase := 2, code := p.code, mreq := false, wanted := [], due := true } :: l) w' := by
  have HPC : p.cells = #[.int .i64 p.kind, .int .i64 p.src, .int .i64 p.num, .int .i64 p.cls, .string p.name, .int .i64 p.size, .int .i64 p.off, .slice p.da p.data.length p.dc, .int .u32 (p.sum : Nat), .int .i64 p.code, .slice p.ga p.gaps.length p.gc] := rfl
  rw [HPC]
  clear HPC
  have hls : ∀ B ∈ srcP q s :: l, Stable B := stabC (srcP_stable _ _) hl
  have hz := hs.alloc hls (.cells #[.int .i64 p.kind, .int .i64 p.src, .int .i64 p.num, .int .i64 p.cls, .string p.name, .int .i64 p.size, .int .i64 p.off, .slice p.da p.data.length p.dc, .int .u32 (p.sum : Nat), .int .i64 p.code, .slice p.ga p.gaps.length p.gc] 45)
  have hbl : ∀ B ∈ blkP w.heap.size (.cells #[.int .i64 p.kind, .int .i64 p.src, .int .i64 p.num, .int .i64 p.cls, .string p.name, .int .i64 p.size, .int .i64 p.off, .slice p.da p.data.length p.dc, .int .u32 (p.sum : Nat), .int .i64 p.code, .slice p.ga p.gaps.length p.gc] 45 (0, 0)) :: l, Stable B := stabC (blkP_stable _ _) hl
  have hP := cPass hbl q s hz.swap now
  rw [hp1] at hP
  have HP := hid hP
  obtain ⟨dv0, wv0, h0⟩ := Sts.openSrc hz.swap
  have k0 := (Sts.srcC h0).k0
  have HOK := hid (cOkS _ q k0)
  have HL := hid hl
  have HBL := hid hbl
  have HG := hid hg
  clear hP h0 hz hs hl hbl k0 hp1 hls hg
  go_enter Try.func25, Try.ntmps25
  go_wp2_with (first | (go_at_call 59; refine HOK.out.mono ?_; rintro e w2 ⟨rfl, rfl⟩) | (go_at_call 60; refine HP.out.mono ?_; rintro e w1 ⟨rfl, h1⟩; obtain ⟨dv, wv, h2⟩ := Sts.openSrc h1; have HB := hid (h2.perm (List.perm_middle (l₁ := [_, _, _]) (l₂ := l))); clear h1 h2))
  have HLB := hid (stabC (blkP_stable w.heap.size (.cells #[.int .i64 p.kind, .int .i64 p.src, .int .i64 p.num, .int .i64 p.cls, .string p.name, .int .i64 p.size, .int .i64 p.off, .slice p.da p.data.length p.dc, .int .u32 (p.sum : Nat), .int .i64 p.code, .slice p.ga p.gaps.length p.gc] 45 (0, 0))) (stabC (blkP_stable q (.cells (s1.cells dv wv) 64 (0, 0))) (stabC (rowP_stable 5 1 dv s1.data.length (u8s s1.data)) (stabC (rowP_stable 81 2 wv s1.wanted.length (Fil.rcells s1.wanted)) HL.out))))
  have hgb : ∀ y, Sts W (blkP w.heap.size (.cells #[.int .i64 p.kind, .int .i64 p.src, .int .i64 p.num, .int .i64 p.cls, .string p.name, .int .i64 p.size, .int .i64 p.off, .slice p.da p.data.length p.dc, .int .u32 (p.sum : Nat), .int .i64 p.code, .slice p.ga p.gaps.length p.gc] 45 (0, 0)) :: blkP q (.cells (s1.cells dv wv) 64 (0, 0)) :: rowP 5 1 dv s1.data.length (u8s s1.data) :: rowP 81 2 wv s1.wanted.length (Fil.rcells s1.wanted) :: l) y → RdR y (.slice p.ga p.gaps.length p.gc) p.gaps := fun y hy => HG.out _ y (Sts.shutSrc hy.tail)
  refine wp_region_ord (.pure 0 (.eff 1 (.pure 2 (.pure 3 (.pure 4 (.pure 5 (.pure 6 (.pure 7 (.pure 8 (.pure 9 (.pure 10 (.pure 11 (.pure 12 (.pure 13 (.pure 14 (.eff 15 (.pure 16 (.pure 17 .nil)))))))))))))))))) (fun y => SrcC y q s1 dv wv ∧ PduC y w.heap.size p) (fun y => Sts W (blkP w.heap.size (.cells #[.int .i64 p.kind, .int .i64 p.src, .int .i64 p.num, .int .i64 p.cls, .string p.name, .int .i64 p.size, .int .i64 p.off, .slice p.da p.data.length p.dc, .int .u32 (p.sum : Nat), .int .i64 p.code, .slice p.ga p.gaps.length p.gc] 45 (0, 0)) :: blkP q (.cells (s1.cells dv wv) 64 (0, 0)) :: rowP 5 1 dv s1.data.length (u8s s1.data) :: rowP 81 2 wv s1.wanted.length (Fil.rcells s1.wanted) :: l) y) (by kernel_rfl) (by kernel_rfl) (HB.out.drew HLB.out) (fun y hy => ⟨Sts.srcC hy.tail, ⟨(Sts.boxCell hy 0 _ rfl).1, (Sts.boxCell hy 1 _ rfl).1, (Sts.boxCell hy 2 _ rfl).1, (Sts.boxCell hy 3 _ rfl).1, (Sts.boxCell hy 4 _ rfl).1, (Sts.boxCell hy 5 _ rfl).1, (Sts.boxCell hy 6 _ rfl).1, (Sts.boxCell hy 7 _ rfl).1, (Sts.boxCell hy 8 _ rfl).1, (Sts.boxCell hy 9 _ rfl).1, (Sts.boxCell hy 10 _ rfl).1⟩⟩) ?_
  apply ord_pure (ho := rfl)
  · go_simp
  · intro x hx; obtain ⟨hC, hP⟩ := hx; have k1 := hC.k1; have k2 := hC.k2; have p0 := hP.c0; have p1 := hP.c1; have p2 := hP.c2; have p3 := hP.c3; have p4 := hP.c4; have p5 := hP.c5; have p6 := hP.c6; have p7 := hP.c7; have p8 := hP.c8; have p9 := hP.c9; have p10 := hP.c10; clear hC hP; go_simp; rfl
  apply ord_norm
  · go_simp; rfl
  apply ord_eff (ho := rfl)
  · go_simp
  intro y hy
  refine eff_call (f := 54) (by go_simp; rfl) (cValid y p hname hdata (by omega) (hgb y hy)) ?_
  rintro e w2 ⟨rfl, hb⟩
  refine ⟨_, rfl, (fun y => SrcC y q s1 dv wv ∧ PduC y w.heap.size p), (fun y => Sts W (blkP w.heap.size (.cells #[.int .i64 p.kind, .int .i64 p.src, .int .i64 p.num, .int .i64 p.cls, .string p.name, .int .i64 p.size, .int .i64 p.off, .slice p.da p.data.length p.dc, .int .u32 (p.sum : Nat), .int .i64 p.code, .slice p.ga p.gaps.length p.gc] 45 (0, 0)) :: blkP q (.cells (s1.cells dv wv) 64 (0, 0)) :: rowP 5 1 dv s1.data.length (u8s s1.data) :: rowP 81 2 wv s1.wanted.length (Fil.rcells s1.wanted) :: l) y), hy.quiet HLB.out hb, (fun y hy => ⟨Sts.srcC hy.tail, ⟨(Sts.boxCell hy 0 _ rfl).1, (Sts.boxCell hy 1 _ rfl).1, (Sts.boxCell hy 2 _ rfl).1, (Sts.boxCell hy 3 _ rfl).1, (Sts.boxCell hy 4 _ rfl).1, (Sts.boxCell hy 5 _ rfl).1, (Sts.boxCell hy 6 _ rfl).1, (Sts.boxCell hy 7 _ rfl).1, (Sts.boxCell hy 8 _ rfl).1, (Sts.boxCell hy 9 _ rfl).1, (Sts.boxCell hy 10 _ rfl).1⟩⟩), (fun _ h => h), ?_⟩
  rw [hv]
  clear hb hy y
  apply ord_norm
  · go_simp; rfl
  iterate 2
    (apply ord_pure (ho := rfl)
     · go_simp
     · intro x hx; obtain ⟨hC, hP⟩ := hx; have k1 := hC.k1; have k2 := hC.k2; have p0 := hP.c0; have p1 := hP.c1; have p2 := hP.c2; have p3 := hP.c3; have p4 := hP.c4; have p5 := hP.c5; have p6 := hP.c6; have p7 := hP.c7; have p8 := hP.c8; have p9 := hP.c9; have p10 := hP.c10; clear hC hP; go_simp; rfl
     apply ord_norm
     · go_simp; rfl)
  iterate 7
    (apply ord_pure (ho := rfl)
     · go_simp
     · intro x hx; obtain ⟨hC, hP⟩ := hx; have k1 := hC.k1; have k2 := hC.k2; have p0 := hP.c0; have p1 := hP.c1; have p2 := hP.c2; have p3 := hP.c3; have p4 := hP.c4; have p5 := hP.c5; have p6 := hP.c6; have p7 := hP.c7; have p8 := hP.c8; have p9 := hP.c9; have p10 := hP.c10; clear hC hP; go_simp; rfl
     apply ord_norm
     · go_simp; rfl)
  iterate 2
    (apply ord_pure (ho := rfl)
     · go_simp
     · intro x hx; obtain ⟨hC, hP⟩ := hx; have k1 := hC.k1; have k2 := hC.k2; have p0 := hP.c0; have p1 := hP.c1; have p2 := hP.c2; have p3 := hP.c3; have p4 := hP.c4; have p5 := hP.c5; have p6 := hP.c6; have p7 := hP.c7; have p8 := hP.c8; have p9 := hP.c9; have p10 := hP.c10; clear hC hP; go_simp; rfl
     apply ord_norm
     · go_simp; rfl)
  iterate 2
    (apply ord_pure (ho := rfl)
     · go_simp
     · intro x hx; obtain ⟨hC, hP⟩ := hx; have k1 := hC.k1; have k2 := hC.k2; have p0 := hP.c0; have p1 := hP.c1; have p2 := hP.c2; have p3 := hP.c3; have p4 := hP.c4; have p5 := hP.c5; have p6 := hP.c6; have p7 := hP.c7; have p8 := hP.c8; have p9 := hP.c9; have p10 := hP.c10; clear hC hP; go_simp; rfl
     apply ord_norm
     · go_simp; rfl)
  apply ord_eff (ho := rfl)
  · go_simp
  intro y hy
  refine eff_call (f := 68) (by go_simp) (cForward y p.kind) ?_
  rintro e w2 ⟨rfl, rfl⟩
  refine ⟨_, rfl, (fun y => SrcC y q s1 dv wv ∧ PduC y w.heap.size p), (fun y => Sts W (blkP w.heap.size (.cells #[.int .i64 p.kind, .int .i64 p.src, .int .i64 p.num, .int .i64 p.cls, .string p.name, .int .i64 p.size, .int .i64 p.off, .slice p.da p.data.length p.dc, .int .u32 (p.sum : Nat), .int .i64 p.code, .slice p.ga p.gaps.length p.gc] 45 (0, 0)) :: blkP q (.cells (s1.cells dv wv) 64 (0, 0)) :: rowP 5 1 dv s1.data.length (u8s s1.data) :: rowP 81 2 wv s1.wanted.length (Fil.rcells s1.wanted) :: l) y), hy, (fun y hy => ⟨Sts.srcC hy.tail, ⟨(Sts.boxCell hy 0 _ rfl).1, (Sts.boxCell hy 1 _ rfl).1, (Sts.boxCell hy 2 _ rfl).1, (Sts.boxCell hy 3 _ rfl).1, (Sts.boxCell hy 4 _ rfl).1, (Sts.boxCell hy 5 _ rfl).1, (Sts.boxCell hy 6 _ rfl).1, (Sts.boxCell hy 7 _ rfl).1, (Sts.boxCell hy 8 _ rfl).1, (Sts.boxCell hy 9 _ rfl).1, (Sts.boxCell hy 10 _ rfl).1⟩⟩), (fun _ h => h), ?_⟩
  rw [hf]
  clear hy y
  apply ord_norm
  · go_simp; rfl
  iterate 2
    (apply ord_pure (ho := rfl)
     · go_simp
     · intro x hx; obtain ⟨hC, hP⟩ := hx; have k1 := hC.k1; have k2 := hC.k2; have p0 := hP.c0; have p1 := hP.c1; have p2 := hP.c2; have p3 := hP.c3; have p4 := hP.c4; have p5 := hP.c5; have p6 := hP.c6; have p7 := hP.c7; have p8 := hP.c8; have p9 := hP.c9; have p10 := hP.c10; clear hC hP; go_simp; rfl
     apply ord_norm
     · go_simp; rfl)
  refine ord_nil fun z hz => ?_
  have k3 := (Sts.srcC hz.tail).k3
  have p0 := (Sts.boxCell hz 0 _ rfl).1
  have p9 := (Sts.boxCell hz 9 _ rfl).1
  have p10 := (Sts.boxCell hz 10 _ rfl).1
  have HZ := hid ((Sts.shutSrc (hz.perm (List.perm_middle (l₁ := [_, _, _]) (l₂ := l)).symm)))
  clear hz HB
  rw [hc] at k3
  go_wp2_with (first | (go_at_call 71; refine (cFinA HBL.out q s1 HZ.out p.code c1).mono ?_; rintro e w2 ⟨rfl, h2⟩; have HF := hid h2.swap.tail; clear h2))
  go_ret
  exact ⟨rfl, HF.out⟩
set_option maxRecDepth 100000 in
set_option maxHeartbeats 2000000 in
theorem cTakeFinB (hv : p.validB = true) (i1 : (p.src == s1.src) = true) (i2 : (p.num == s1.num) = true) (hf : Fil.fwdB p.kind = false) (hc : s1.cls = 2) (hk6 : (p.kind == 6) = false) (hk4 : (p.kind == 4) = false) (c1 : s1.phase = 1) : Calls Try.prog 25 #[.pointer (some ⟨q, 0, none⟩), .agg p.cells, .int .i64 now] w fun e w' => e = .returned (.int .i64 0) ∧ Sts W (srcP q { s1 with phase := 2, code := p.code, mreq := false, wanted := [], due := true } :: l) w' := by
  have HPC : p.cells = #[.int .i64 p.kind, .int .i64 p.src, .int .i64 p.num, .int .i64 p.cls, .string p.name, .int .i64 p.size, .int .i64 p.off, .slice p.da p.data.length p.dc, .int .u32 (p.sum : Nat), .int .i64 p.code, .slice p.ga p.gaps.length p.gc] := rfl
  rw [HPC]
  clear HPC
  have hls : ∀ B ∈ srcP q s :: l, Stable B := stabC (srcP_stable _ _) hl
  have hz := hs.alloc hls (.cells #[.int .i64 p.kind, .int .i64 p.src, .int .i64 p.num, .int .i64 p.cls, .string p.name, .int .i64 p.size, .int .i64 p.off, .slice p.da p.data.length p.dc, .int .u32 (p.sum : Nat), .int .i64 p.code, .slice p.ga p.gaps.length p.gc] 45)
  have hbl : ∀ B ∈ blkP w.heap.size (.cells #[.int .i64 p.kind, .int .i64 p.src, .int .i64 p.num, .int .i64 p.cls, .string p.name, .int .i64 p.size, .int .i64 p.off, .slice p.da p.data.length p.dc, .int .u32 (p.sum : Nat), .int .i64 p.code, .slice p.ga p.gaps.length p.gc] 45 (0, 0)) :: l, Stable B := stabC (blkP_stable _ _) hl
  have hP := cPass hbl q s hz.swap now
  rw [hp1] at hP
  have HP := hid hP
  obtain ⟨dv0, wv0, h0⟩ := Sts.openSrc hz.swap
  have k0 := (Sts.srcC h0).k0
  have HOK := hid (cOkS _ q k0)
  have HL := hid hl
  have HBL := hid hbl
  have HG := hid hg
  clear hP h0 hz hs hl hbl k0 hp1 hls hg
  go_enter Try.func25, Try.ntmps25
  go_wp2_with (first | (go_at_call 59; refine HOK.out.mono ?_; rintro e w2 ⟨rfl, rfl⟩) | (go_at_call 60; refine HP.out.mono ?_; rintro e w1 ⟨rfl, h1⟩; obtain ⟨dv, wv, h2⟩ := Sts.openSrc h1; have HB := hid (h2.perm (List.perm_middle (l₁ := [_, _, _]) (l₂ := l))); clear h1 h2))
  have HLB := hid (stabC (blkP_stable w.heap.size (.cells #[.int .i64 p.kind, .int .i64 p.src, .int .i64 p.num, .int .i64 p.cls, .string p.name, .int .i64 p.size, .int .i64 p.off, .slice p.da p.data.length p.dc, .int .u32 (p.sum : Nat), .int .i64 p.code, .slice p.ga p.gaps.length p.gc] 45 (0, 0))) (stabC (blkP_stable q (.cells (s1.cells dv wv) 64 (0, 0))) (stabC (rowP_stable 5 1 dv s1.data.length (u8s s1.data)) (stabC (rowP_stable 81 2 wv s1.wanted.length (Fil.rcells s1.wanted)) HL.out))))
  have hgb : ∀ y, Sts W (blkP w.heap.size (.cells #[.int .i64 p.kind, .int .i64 p.src, .int .i64 p.num, .int .i64 p.cls, .string p.name, .int .i64 p.size, .int .i64 p.off, .slice p.da p.data.length p.dc, .int .u32 (p.sum : Nat), .int .i64 p.code, .slice p.ga p.gaps.length p.gc] 45 (0, 0)) :: blkP q (.cells (s1.cells dv wv) 64 (0, 0)) :: rowP 5 1 dv s1.data.length (u8s s1.data) :: rowP 81 2 wv s1.wanted.length (Fil.rcells s1.wanted) :: l) y → RdR y (.slice p.ga p.gaps.length p.gc) p.gaps := fun y hy => HG.out _ y (Sts.shutSrc hy.tail)
  refine wp_region_ord (.pure 0 (.eff 1 (.pure 2 (.pure 3 (.pure 4 (.pure 5 (.pure 6 (.pure 7 (.pure 8 (.pure 9 (.pure 10 (.pure 11 (.pure 12 (.pure 13 (.pure 14 (.eff 15 (.pure 16 (.pure 17 .nil)))))))))))))))))) (fun y => SrcC y q s1 dv wv ∧ PduC y w.heap.size p) (fun y => Sts W (blkP w.heap.size (.cells #[.int .i64 p.kind, .int .i64 p.src, .int .i64 p.num, .int .i64 p.cls, .string p.name, .int .i64 p.size, .int .i64 p.off, .slice p.da p.data.length p.dc, .int .u32 (p.sum : Nat), .int .i64 p.code, .slice p.ga p.gaps.length p.gc] 45 (0, 0)) :: blkP q (.cells (s1.cells dv wv) 64 (0, 0)) :: rowP 5 1 dv s1.data.length (u8s s1.data) :: rowP 81 2 wv s1.wanted.length (Fil.rcells s1.wanted) :: l) y) (by kernel_rfl) (by kernel_rfl) (HB.out.drew HLB.out) (fun y hy => ⟨Sts.srcC hy.tail, ⟨(Sts.boxCell hy 0 _ rfl).1, (Sts.boxCell hy 1 _ rfl).1, (Sts.boxCell hy 2 _ rfl).1, (Sts.boxCell hy 3 _ rfl).1, (Sts.boxCell hy 4 _ rfl).1, (Sts.boxCell hy 5 _ rfl).1, (Sts.boxCell hy 6 _ rfl).1, (Sts.boxCell hy 7 _ rfl).1, (Sts.boxCell hy 8 _ rfl).1, (Sts.boxCell hy 9 _ rfl).1, (Sts.boxCell hy 10 _ rfl).1⟩⟩) ?_
  apply ord_pure (ho := rfl)
  · go_simp
  · intro x hx; obtain ⟨hC, hP⟩ := hx; have k1 := hC.k1; have k2 := hC.k2; have p0 := hP.c0; have p1 := hP.c1; have p2 := hP.c2; have p3 := hP.c3; have p4 := hP.c4; have p5 := hP.c5; have p6 := hP.c6; have p7 := hP.c7; have p8 := hP.c8; have p9 := hP.c9; have p10 := hP.c10; clear hC hP; go_simp; rfl
  apply ord_norm
  · go_simp; rfl
  apply ord_eff (ho := rfl)
  · go_simp
  intro y hy
  refine eff_call (f := 54) (by go_simp; rfl) (cValid y p hname hdata (by omega) (hgb y hy)) ?_
  rintro e w2 ⟨rfl, hb⟩
  refine ⟨_, rfl, (fun y => SrcC y q s1 dv wv ∧ PduC y w.heap.size p), (fun y => Sts W (blkP w.heap.size (.cells #[.int .i64 p.kind, .int .i64 p.src, .int .i64 p.num, .int .i64 p.cls, .string p.name, .int .i64 p.size, .int .i64 p.off, .slice p.da p.data.length p.dc, .int .u32 (p.sum : Nat), .int .i64 p.code, .slice p.ga p.gaps.length p.gc] 45 (0, 0)) :: blkP q (.cells (s1.cells dv wv) 64 (0, 0)) :: rowP 5 1 dv s1.data.length (u8s s1.data) :: rowP 81 2 wv s1.wanted.length (Fil.rcells s1.wanted) :: l) y), hy.quiet HLB.out hb, (fun y hy => ⟨Sts.srcC hy.tail, ⟨(Sts.boxCell hy 0 _ rfl).1, (Sts.boxCell hy 1 _ rfl).1, (Sts.boxCell hy 2 _ rfl).1, (Sts.boxCell hy 3 _ rfl).1, (Sts.boxCell hy 4 _ rfl).1, (Sts.boxCell hy 5 _ rfl).1, (Sts.boxCell hy 6 _ rfl).1, (Sts.boxCell hy 7 _ rfl).1, (Sts.boxCell hy 8 _ rfl).1, (Sts.boxCell hy 9 _ rfl).1, (Sts.boxCell hy 10 _ rfl).1⟩⟩), (fun _ h => h), ?_⟩
  rw [hv]
  clear hb hy y
  apply ord_norm
  · go_simp; rfl
  iterate 2
    (apply ord_pure (ho := rfl)
     · go_simp
     · intro x hx; obtain ⟨hC, hP⟩ := hx; have k1 := hC.k1; have k2 := hC.k2; have p0 := hP.c0; have p1 := hP.c1; have p2 := hP.c2; have p3 := hP.c3; have p4 := hP.c4; have p5 := hP.c5; have p6 := hP.c6; have p7 := hP.c7; have p8 := hP.c8; have p9 := hP.c9; have p10 := hP.c10; clear hC hP; go_simp; rfl
     apply ord_norm
     · go_simp; rfl)
  iterate 7
    (apply ord_pure (ho := rfl)
     · go_simp
     · intro x hx; obtain ⟨hC, hP⟩ := hx; have k1 := hC.k1; have k2 := hC.k2; have p0 := hP.c0; have p1 := hP.c1; have p2 := hP.c2; have p3 := hP.c3; have p4 := hP.c4; have p5 := hP.c5; have p6 := hP.c6; have p7 := hP.c7; have p8 := hP.c8; have p9 := hP.c9; have p10 := hP.c10; clear hC hP; go_simp; rfl
     apply ord_norm
     · go_simp; rfl)
  iterate 2
    (apply ord_pure (ho := rfl)
     · go_simp
     · intro x hx; obtain ⟨hC, hP⟩ := hx; have k1 := hC.k1; have k2 := hC.k2; have p0 := hP.c0; have p1 := hP.c1; have p2 := hP.c2; have p3 := hP.c3; have p4 := hP.c4; have p5 := hP.c5; have p6 := hP.c6; have p7 := hP.c7; have p8 := hP.c8; have p9 := hP.c9; have p10 := hP.c10; clear hC hP; go_simp; rfl
     apply ord_norm
     · go_simp; rfl)
  iterate 2
    (apply ord_pure (ho := rfl)
     · go_simp
     · intro x hx; obtain ⟨hC, hP⟩ := hx; have k1 := hC.k1; have k2 := hC.k2; have p0 := hP.c0; have p1 := hP.c1; have p2 := hP.c2; have p3 := hP.c3; have p4 := hP.c4; have p5 := hP.c5; have p6 := hP.c6; have p7 := hP.c7; have p8 := hP.c8; have p9 := hP.c9; have p10 := hP.c10; clear hC hP; go_simp; rfl
     apply ord_norm
     · go_simp; rfl)
  apply ord_eff (ho := rfl)
  · go_simp
  intro y hy
  refine eff_call (f := 68) (by go_simp) (cForward y p.kind) ?_
  rintro e w2 ⟨rfl, rfl⟩
  refine ⟨_, rfl, (fun y => SrcC y q s1 dv wv ∧ PduC y w.heap.size p), (fun y => Sts W (blkP w.heap.size (.cells #[.int .i64 p.kind, .int .i64 p.src, .int .i64 p.num, .int .i64 p.cls, .string p.name, .int .i64 p.size, .int .i64 p.off, .slice p.da p.data.length p.dc, .int .u32 (p.sum : Nat), .int .i64 p.code, .slice p.ga p.gaps.length p.gc] 45 (0, 0)) :: blkP q (.cells (s1.cells dv wv) 64 (0, 0)) :: rowP 5 1 dv s1.data.length (u8s s1.data) :: rowP 81 2 wv s1.wanted.length (Fil.rcells s1.wanted) :: l) y), hy, (fun y hy => ⟨Sts.srcC hy.tail, ⟨(Sts.boxCell hy 0 _ rfl).1, (Sts.boxCell hy 1 _ rfl).1, (Sts.boxCell hy 2 _ rfl).1, (Sts.boxCell hy 3 _ rfl).1, (Sts.boxCell hy 4 _ rfl).1, (Sts.boxCell hy 5 _ rfl).1, (Sts.boxCell hy 6 _ rfl).1, (Sts.boxCell hy 7 _ rfl).1, (Sts.boxCell hy 8 _ rfl).1, (Sts.boxCell hy 9 _ rfl).1, (Sts.boxCell hy 10 _ rfl).1⟩⟩), (fun _ h => h), ?_⟩
  rw [hf]
  clear hy y
  apply ord_norm
  · go_simp; rfl
  iterate 2
    (apply ord_pure (ho := rfl)
     · go_simp
     · intro x hx; obtain ⟨hC, hP⟩ := hx; have k1 := hC.k1; have k2 := hC.k2; have p0 := hP.c0; have p1 := hP.c1; have p2 := hP.c2; have p3 := hP.c3; have p4 := hP.c4; have p5 := hP.c5; have p6 := hP.c6; have p7 := hP.c7; have p8 := hP.c8; have p9 := hP.c9; have p10 := hP.c10; clear hC hP; go_simp; rfl
     apply ord_norm
     · go_simp; rfl)
  refine ord_nil fun z hz => ?_
  have k3 := (Sts.srcC hz.tail).k3
  have p0 := (Sts.boxCell hz 0 _ rfl).1
  have p9 := (Sts.boxCell hz 9 _ rfl).1
  have p10 := (Sts.boxCell hz 10 _ rfl).1
  have HZ := hid ((Sts.shutSrc (hz.perm (List.perm_middle (l₁ := [_, _, _]) (l₂ := l)).symm)))
  clear hz HB
  rw [hc] at k3
  go_wp2_with (first | (go_at_call 71; refine (cFinB HBL.out q s1 HZ.out p.code c1).mono ?_; rintro e w2 ⟨rfl, h2⟩; have HF := hid h2.swap.tail; clear h2))
  go_ret
  exact ⟨rfl, HF.out⟩
end
end Go.Proofs.Ytfjadhkhmhnccaa
