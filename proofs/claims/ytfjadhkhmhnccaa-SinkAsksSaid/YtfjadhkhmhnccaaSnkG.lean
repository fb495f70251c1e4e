/- The receiving end: Take. -/
import Derived.Test.YtfjadhkhmhnccaaSnkF
import Derived.Test.YtfjadhkhmhnccaaSnkD
set_option linter.unusedVariables false
set_option linter.unusedSimpArgs false
namespace Go.Proofs.Ytfjadhkhmhnccaa
open Go.RowKit Go.Proofs.Num
section
variable {W w : World} {l : List HProp} (hl : ∀ B ∈ l, Stable B) (q : Nat) (s s1 : Fil.Snk) (hs : Sts W (snkP q s :: l) w) (now : Int) (hp1 : s.adv now = s1) (p : Fil.Pdu) (hname : p.name.size ≤ 1000000) (hdata : p.data.length < 1000000000) (hgl : p.gaps.length < 1000) (hg : ∀ A y, Sts W (A :: l) y → RdR y (.slice p.ga p.gaps.length p.gc) p.gaps)
include hl hs hp1 hname hdata hgl hg
set_option maxRecDepth 100000 in
set_option maxHeartbeats 4000000 in
theorem cTakeKBad (hv : p.validB = false) : Calls Try.prog 36 #[.pointer (some ⟨q, 0, none⟩), .agg p.cells, .int .i64 now] w fun e w' => e = .returned (.int .i64 1) ∧ Sts W (snkP q s1 :: l) w' := by
  have HPC : p.cells = #[.int .i64 p.kind, .int .i64 p.src, .int .i64 p.num, .int .i64 p.cls, .string p.name, .int .i64 p.size, .int .i64 p.off, .slice p.da p.data.length p.dc, .int .u32 (p.sum : Nat), .int .i64 p.code, .slice p.ga p.gaps.length p.gc] := rfl
  rw [HPC]
  clear HPC
  have hls : ∀ B ∈ snkP q s :: l, Stable B := stabC (snkP_stable _ _) hl
  have hz := hs.alloc hls (.cells #[.int .i64 p.kind, .int .i64 p.src, .int .i64 p.num, .int .i64 p.cls, .string p.name, .int .i64 p.size, .int .i64 p.off, .slice p.da p.data.length p.dc, .int .u32 (p.sum : Nat), .int .i64 p.code, .slice p.ga p.gaps.length p.gc] 45)
  have hbl : ∀ B ∈ blkP w.heap.size (.cells #[.int .i64 p.kind, .int .i64 p.src, .int .i64 p.num, .int .i64 p.cls, .string p.name, .int .i64 p.size, .int .i64 p.off, .slice p.da p.data.length p.dc, .int .u32 (p.sum : Nat), .int .i64 p.code, .slice p.ga p.gaps.length p.gc] 45 (0, 0)) :: l, Stable B := stabC (blkP_stable _ _) hl
  have hP := cAdv hbl q s hz.swap now
  rw [hp1] at hP
  have HP := hid hP
  obtain ⟨dv0, wv0, h0⟩ := Sts.openSnk hz.swap
  have k0 := (Sts.snkC h0).k0
  have HOK := hid (cVal _ q k0)
  have HL := hid hl
  have HBL := hid hbl
  have HG := hid hg
  clear hP h0 hz hs hl hbl k0 hp1 hls hg
  go_enter Try.func36, Try.ntmps36
  go_wp2_with (first | (go_at_call 81; refine HOK.out.mono ?_; rintro e w2 ⟨rfl, rfl⟩) | (go_at_call 82; refine HP.out.mono ?_; rintro e w1 ⟨rfl, h1⟩; obtain ⟨dv, wv, h2⟩ := Sts.openSnk h1; have HB := hid (h2.perm (List.perm_middle (l₁ := [_, _, _]) (l₂ := l))); clear h1 h2))
  have HLB := hid (stabC (blkP_stable w.heap.size (.cells #[.int .i64 p.kind, .int .i64 p.src, .int .i64 p.num, .int .i64 p.cls, .string p.name, .int .i64 p.size, .int .i64 p.off, .slice p.da p.data.length p.dc, .int .u32 (p.sum : Nat), .int .i64 p.code, .slice p.ga p.gaps.length p.gc] 45 (0, 0))) (stabC (blkP_stable q (.cells (s1.cells dv wv) 109 (0, 0))) (stabC (rowP_stable 5 1 dv s1.data.length (u8s s1.data)) (stabC (rowP_stable 81 2 wv s1.got.length (Fil.rcells s1.got)) HL.out))))
  have hgb : ∀ y, Sts W (blkP w.heap.size (.cells #[.int .i64 p.kind, .int .i64 p.src, .int .i64 p.num, .int .i64 p.cls, .string p.name, .int .i64 p.size, .int .i64 p.off, .slice p.da p.data.length p.dc, .int .u32 (p.sum : Nat), .int .i64 p.code, .slice p.ga p.gaps.length p.gc] 45 (0, 0)) :: blkP q (.cells (s1.cells dv wv) 109 (0, 0)) :: rowP 5 1 dv s1.data.length (u8s s1.data) :: rowP 81 2 wv s1.got.length (Fil.rcells s1.got) :: l) y → RdR y (.slice p.ga p.gaps.length p.gc) p.gaps := fun y hy => HG.out _ y (Sts.shutSnk hy.tail)
  refine wp_region_ord (.pure 0 (.eff 1 (.pure 2 (.pure 3 (.pure 4 (.pure 5 (.pure 6 (.pure 7 (.pure 8 (.pure 9 (.pure 10 (.pure 11 (.pure 12 (.pure 13 (.pure 14 (.eff 15 (.pure 16 (.pure 17 .nil)))))))))))))))))) (fun y => SnkC y q s1 dv wv ∧ PduC y w.heap.size p) (fun y => Sts W (blkP w.heap.size (.cells #[.int .i64 p.kind, .int .i64 p.src, .int .i64 p.num, .int .i64 p.cls, .string p.name, .int .i64 p.size, .int .i64 p.off, .slice p.da p.data.length p.dc, .int .u32 (p.sum : Nat), .int .i64 p.code, .slice p.ga p.gaps.length p.gc] 45 (0, 0)) :: blkP q (.cells (s1.cells dv wv) 109 (0, 0)) :: rowP 5 1 dv s1.data.length (u8s s1.data) :: rowP 81 2 wv s1.got.length (Fil.rcells s1.got) :: l) y) (by kernel_rfl) (by kernel_rfl) (HB.out.drew HLB.out) (fun y hy => ⟨Sts.snkC hy.tail, ⟨(Sts.boxCell hy 0 _ rfl).1, (Sts.boxCell hy 1 _ rfl).1, (Sts.boxCell hy 2 _ rfl).1, (Sts.boxCell hy 3 _ rfl).1, (Sts.boxCell hy 4 _ rfl).1, (Sts.boxCell hy 5 _ rfl).1, (Sts.boxCell hy 6 _ rfl).1, (Sts.boxCell hy 7 _ rfl).1, (Sts.boxCell hy 8 _ rfl).1, (Sts.boxCell hy 9 _ rfl).1, (Sts.boxCell hy 10 _ rfl).1⟩⟩) ?_
  apply ord_pure (ho := rfl)
  · go_simp
  · intro x hx; obtain ⟨hC, hP⟩ := hx; have k1 := hC.k1; have k2 := hC.k2; have p0 := hP.c0; have p1 := hP.c1; have p2 := hP.c2; have p3 := hP.c3; have p4 := hP.c4; have p5 := hP.c5; have p6 := hP.c6; have p7 := hP.c7; have p8 := hP.c8; have p9 := hP.c9; have p10 := hP.c10; clear hC hP; go_simp; rfl
  apply ord_norm
  · go_simp; rfl
  apply ord_eff (ho := rfl)
  · go_simp
  intro y hy
  refine eff_call (f := 54) (by go_simp; rfl) (cValid y p hname hdata (by omega) (hgb y hy)) ?_
  rintro e w2 ⟨rfl, hb⟩
  refine ⟨_, rfl, (fun y => SnkC y q s1 dv wv ∧ PduC y w.heap.size p), (fun y => Sts W (blkP w.heap.size (.cells #[.int .i64 p.kind, .int .i64 p.src, .int .i64 p.num, .int .i64 p.cls, .string p.name, .int .i64 p.size, .int .i64 p.off, .slice p.da p.data.length p.dc, .int .u32 (p.sum : Nat), .int .i64 p.code, .slice p.ga p.gaps.length p.gc] 45 (0, 0)) :: blkP q (.cells (s1.cells dv wv) 109 (0, 0)) :: rowP 5 1 dv s1.data.length (u8s s1.data) :: rowP 81 2 wv s1.got.length (Fil.rcells s1.got) :: l) y), hy.quiet HLB.out hb, (fun y hy => ⟨Sts.snkC hy.tail, ⟨(Sts.boxCell hy 0 _ rfl).1, (Sts.boxCell hy 1 _ rfl).1, (Sts.boxCell hy 2 _ rfl).1, (Sts.boxCell hy 3 _ rfl).1, (Sts.boxCell hy 4 _ rfl).1, (Sts.boxCell hy 5 _ rfl).1, (Sts.boxCell hy 6 _ rfl).1, (Sts.boxCell hy 7 _ rfl).1, (Sts.boxCell hy 8 _ rfl).1, (Sts.boxCell hy 9 _ rfl).1, (Sts.boxCell hy 10 _ rfl).1⟩⟩), (fun _ h => h), ?_⟩
  rw [hv]
  clear hb hy y
  apply ord_norm
  · go_simp; rfl
  iterate 2
    (apply ord_pure (ho := rfl)
     · go_simp
     · intro x hx; obtain ⟨hC, hP⟩ := hx; have k1 := hC.k1; have k2 := hC.k2; have p0 := hP.c0; have p1 := hP.c1; have p2 := hP.c2; have p3 := hP.c3; have p4 := hP.c4; have p5 := hP.c5; have p6 := hP.c6; have p7 := hP.c7; have p8 := hP.c8; have p9 := hP.c9; have p10 := hP.c10; clear hC hP; go_simp; rfl
     apply ord_norm
     · go_simp; rfl)
  iterate 7
    (apply ord_skip (ho := rfl)
     · go_simp
     apply ord_norm
     · go_simp; rfl)
  iterate 2
    (apply ord_pure (ho := rfl)
     · go_simp
     · intro x hx; obtain ⟨hC, hP⟩ := hx; have k1 := hC.k1; have k2 := hC.k2; have p0 := hP.c0; have p1 := hP.c1; have p2 := hP.c2; have p3 := hP.c3; have p4 := hP.c4; have p5 := hP.c5; have p6 := hP.c6; have p7 := hP.c7; have p8 := hP.c8; have p9 := hP.c9; have p10 := hP.c10; clear hC hP; go_simp; rfl
     apply ord_norm
     · go_simp; rfl)
  iterate 2
    (apply ord_skip (ho := rfl)
     · go_simp
     apply ord_norm
     · go_simp; rfl)
  apply ord_eskip (ho := rfl)
  · go_simp
  apply ord_norm
  · go_simp; rfl
  apply ord_skip (ho := rfl)
  · go_simp
  apply ord_norm
  · go_simp; rfl
  apply ord_pure (ho := rfl)
  · go_simp
  · intro x hx; obtain ⟨hC, hP⟩ := hx; have k1 := hC.k1; have k2 := hC.k2; have p0 := hP.c0; have p1 := hP.c1; have p2 := hP.c2; have p3 := hP.c3; have p4 := hP.c4; have p5 := hP.c5; have p6 := hP.c6; have p7 := hP.c7; have p8 := hP.c8; have p9 := hP.c9; have p10 := hP.c10; clear hC hP; go_simp; rfl
  apply ord_norm
  · go_simp; rfl
  refine ord_nil fun z hz => ?_
  have HZ := hid ((Sts.shutSnk hz.tail))
  clear hz HB
  go_wp2_with fail
  go_ret
  exact ⟨rfl, HZ.out⟩
set_option maxRecDepth 100000 in
set_option maxHeartbeats 4000000 in
theorem cTakeKId (hv : p.validB = true) (hi : ((p.src == s1.src) && (p.num == s1.num)) = false) : Calls Try.prog 36 #[.pointer (some ⟨q, 0, none⟩), .agg p.cells, .int .i64 now] w fun e w' => e = .returned (.int .i64 1) ∧ Sts W (snkP q s1 :: l) w' := by
  have hi' : (p.src == s1.src) = false ∨ (p.src == s1.src) = true ∧ (p.num == s1.num) = false := by
    cases h : (p.src == s1.src)
    · exact Or.inl rfl
    · rw [h] at hi; exact Or.inr ⟨rfl, by simpa using hi⟩
  clear hi
  rcases hi' with i1 | ⟨i1, i2⟩
  all_goals
    have HPC : p.cells = #[.int .i64 p.kind, .int .i64 p.src, .int .i64 p.num, .int .i64 p.cls, .string p.name, .int .i64 p.size, .int .i64 p.off, .slice p.da p.data.length p.dc, .int .u32 (p.sum : Nat), .int .i64 p.code, .slice p.ga p.gaps.length p.gc] := rfl
    rw [HPC]
    clear HPC
    have hls : ∀ B ∈ snkP q s :: l, Stable B := stabC (snkP_stable _ _) hl
    have hz := hs.alloc hls (.cells #[.int .i64 p.kind, .int .i64 p.src, .int .i64 p.num, .int .i64 p.cls, .string p.name, .int .i64 p.size, .int .i64 p.off, .slice p.da p.data.length p.dc, .int .u32 (p.sum : Nat), .int .i64 p.code, .slice p.ga p.gaps.length p.gc] 45)
    have hbl : ∀ B ∈ blkP w.heap.size (.cells #[.int .i64 p.kind, .int .i64 p.src, .int .i64 p.num, .int .i64 p.cls, .string p.name, .int .i64 p.size, .int .i64 p.off, .slice p.da p.data.length p.dc, .int .u32 (p.sum : Nat), .int .i64 p.code, .slice p.ga p.gaps.length p.gc] 45 (0, 0)) :: l, Stable B := stabC (blkP_stable _ _) hl
    have hP := cAdv hbl q s hz.swap now
    rw [hp1] at hP
    have HP := hid hP
    obtain ⟨dv0, wv0, h0⟩ := Sts.openSnk hz.swap
    have k0 := (Sts.snkC h0).k0
    have HOK := hid (cVal _ q k0)
    have HL := hid hl
    have HBL := hid hbl
    have HG := hid hg
    clear hP h0 hz hs hl hbl k0 hp1 hls hg
    go_enter Try.func36, Try.ntmps36
    go_wp2_with (first | (go_at_call 81; refine HOK.out.mono ?_; rintro e w2 ⟨rfl, rfl⟩) | (go_at_call 82; refine HP.out.mono ?_; rintro e w1 ⟨rfl, h1⟩; obtain ⟨dv, wv, h2⟩ := Sts.openSnk h1; have HB := hid (h2.perm (List.perm_middle (l₁ := [_, _, _]) (l₂ := l))); clear h1 h2))
    have HLB := hid (stabC (blkP_stable w.heap.size (.cells #[.int .i64 p.kind, .int .i64 p.src, .int .i64 p.num, .int .i64 p.cls, .string p.name, .int .i64 p.size, .int .i64 p.off, .slice p.da p.data.length p.dc, .int .u32 (p.sum : Nat), .int .i64 p.code, .slice p.ga p.gaps.length p.gc] 45 (0, 0))) (stabC (blkP_stable q (.cells (s1.cells dv wv) 109 (0, 0))) (stabC (rowP_stable 5 1 dv s1.data.length (u8s s1.data)) (stabC (rowP_stable 81 2 wv s1.got.length (Fil.rcells s1.got)) HL.out))))
    have hgb : ∀ y, Sts W (blkP w.heap.size (.cells #[.int .i64 p.kind, .int .i64 p.src, .int .i64 p.num, .int .i64 p.cls, .string p.name, .int .i64 p.size, .int .i64 p.off, .slice p.da p.data.length p.dc, .int .u32 (p.sum : Nat), .int .i64 p.code, .slice p.ga p.gaps.length p.gc] 45 (0, 0)) :: blkP q (.cells (s1.cells dv wv) 109 (0, 0)) :: rowP 5 1 dv s1.data.length (u8s s1.data) :: rowP 81 2 wv s1.got.length (Fil.rcells s1.got) :: l) y → RdR y (.slice p.ga p.gaps.length p.gc) p.gaps := fun y hy => HG.out _ y (Sts.shutSnk hy.tail)
    refine wp_region_ord (.pure 0 (.eff 1 (.pure 2 (.pure 3 (.pure 4 (.pure 5 (.pure 6 (.pure 7 (.pure 8 (.pure 9 (.pure 10 (.pure 11 (.pure 12 (.pure 13 (.pure 14 (.eff 15 (.pure 16 (.pure 17 .nil)))))))))))))))))) (fun y => SnkC y q s1 dv wv ∧ PduC y w.heap.size p) (fun y => Sts W (blkP w.heap.size (.cells #[.int .i64 p.kind, .int .i64 p.src, .int .i64 p.num, .int .i64 p.cls, .string p.name, .int .i64 p.size, .int .i64 p.off, .slice p.da p.data.length p.dc, .int .u32 (p.sum : Nat), .int .i64 p.code, .slice p.ga p.gaps.length p.gc] 45 (0, 0)) :: blkP q (.cells (s1.cells dv wv) 109 (0, 0)) :: rowP 5 1 dv s1.data.length (u8s s1.data) :: rowP 81 2 wv s1.got.length (Fil.rcells s1.got) :: l) y) (by kernel_rfl) (by kernel_rfl) (HB.out.drew HLB.out) (fun y hy => ⟨Sts.snkC hy.tail, ⟨(Sts.boxCell hy 0 _ rfl).1, (Sts.boxCell hy 1 _ rfl).1, (Sts.boxCell hy 2 _ rfl).1, (Sts.boxCell hy 3 _ rfl).1, (Sts.boxCell hy 4 _ rfl).1, (Sts.boxCell hy 5 _ rfl).1, (Sts.boxCell hy 6 _ rfl).1, (Sts.boxCell hy 7 _ rfl).1, (Sts.boxCell hy 8 _ rfl).1, (Sts.boxCell hy 9 _ rfl).1, (Sts.boxCell hy 10 _ rfl).1⟩⟩) ?_
    apply ord_pure (ho := rfl)
    · go_simp
    · intro x hx; obtain ⟨hC, hP⟩ := hx; have k1 := hC.k1; have k2 := hC.k2; have p0 := hP.c0; have p1 := hP.c1; have p2 := hP.c2; have p3 := hP.c3; have p4 := hP.c4; have p5 := hP.c5; have p6 := hP.c6; have p7 := hP.c7; have p8 := hP.c8; have p9 := hP.c9; have p10 := hP.c10; clear hC hP; go_simp; rfl
    apply ord_norm
    · go_simp; rfl
    apply ord_eff (ho := rfl)
    · go_simp
    intro y hy
    refine eff_call (f := 54) (by go_simp; rfl) (cValid y p hname hdata (by omega) (hgb y hy)) ?_
    rintro e w2 ⟨rfl, hb⟩
    refine ⟨_, rfl, (fun y => SnkC y q s1 dv wv ∧ PduC y w.heap.size p), (fun y => Sts W (blkP w.heap.size (.cells #[.int .i64 p.kind, .int .i64 p.src, .int .i64 p.num, .int .i64 p.cls, .string p.name, .int .i64 p.size, .int .i64 p.off, .slice p.da p.data.length p.dc, .int .u32 (p.sum : Nat), .int .i64 p.code, .slice p.ga p.gaps.length p.gc] 45 (0, 0)) :: blkP q (.cells (s1.cells dv wv) 109 (0, 0)) :: rowP 5 1 dv s1.data.length (u8s s1.data) :: rowP 81 2 wv s1.got.length (Fil.rcells s1.got) :: l) y), hy.quiet HLB.out hb, (fun y hy => ⟨Sts.snkC hy.tail, ⟨(Sts.boxCell hy 0 _ rfl).1, (Sts.boxCell hy 1 _ rfl).1, (Sts.boxCell hy 2 _ rfl).1, (Sts.boxCell hy 3 _ rfl).1, (Sts.boxCell hy 4 _ rfl).1, (Sts.boxCell hy 5 _ rfl).1, (Sts.boxCell hy 6 _ rfl).1, (Sts.boxCell hy 7 _ rfl).1, (Sts.boxCell hy 8 _ rfl).1, (Sts.boxCell hy 9 _ rfl).1, (Sts.boxCell hy 10 _ rfl).1⟩⟩), (fun _ h => h), ?_⟩
    rw [hv]
    clear hb hy y
    apply ord_norm
    · go_simp; rfl
    iterate 2
      (apply ord_pure (ho := rfl)
       · go_simp
       · intro x hx; obtain ⟨hC, hP⟩ := hx; have k1 := hC.k1; have k2 := hC.k2; have p0 := hP.c0; have p1 := hP.c1; have p2 := hP.c2; have p3 := hP.c3; have p4 := hP.c4; have p5 := hP.c5; have p6 := hP.c6; have p7 := hP.c7; have p8 := hP.c8; have p9 := hP.c9; have p10 := hP.c10; clear hC hP; go_simp; rfl
       apply ord_norm
       · go_simp; rfl)
    iterate 7
      (apply ord_pure (ho := rfl)
       · go_simp
       · intro x hx; obtain ⟨hC, hP⟩ := hx; have k1 := hC.k1; have k2 := hC.k2; have p0 := hP.c0; have p1 := hP.c1; have p2 := hP.c2; have p3 := hP.c3; have p4 := hP.c4; have p5 := hP.c5; have p6 := hP.c6; have p7 := hP.c7; have p8 := hP.c8; have p9 := hP.c9; have p10 := hP.c10; clear hC hP; go_simp; rfl
       apply ord_norm
       · go_simp; rfl)
    iterate 2
      (apply ord_pure (ho := rfl)
       · go_simp
       · intro x hx; obtain ⟨hC, hP⟩ := hx; have k1 := hC.k1; have k2 := hC.k2; have p0 := hP.c0; have p1 := hP.c1; have p2 := hP.c2; have p3 := hP.c3; have p4 := hP.c4; have p5 := hP.c5; have p6 := hP.c6; have p7 := hP.c7; have p8 := hP.c8; have p9 := hP.c9; have p10 := hP.c10; clear hC hP; go_simp; rfl
       apply ord_norm
       · go_simp; rfl)
    iterate 2
      (apply ord_skip (ho := rfl)
       · go_simp
       apply ord_norm
       · go_simp; rfl)
    apply ord_eskip (ho := rfl)
    · go_simp
    apply ord_norm
    · go_simp; rfl
    apply ord_skip (ho := rfl)
    · go_simp
    apply ord_norm
    · go_simp; rfl
    apply ord_pure (ho := rfl)
    · go_simp
    · intro x hx; obtain ⟨hC, hP⟩ := hx; have k1 := hC.k1; have k2 := hC.k2; have p0 := hP.c0; have p1 := hP.c1; have p2 := hP.c2; have p3 := hP.c3; have p4 := hP.c4; have p5 := hP.c5; have p6 := hP.c6; have p7 := hP.c7; have p8 := hP.c8; have p9 := hP.c9; have p10 := hP.c10; clear hC hP; go_simp; rfl
    apply ord_norm
    · go_simp; rfl
    refine ord_nil fun z hz => ?_
    have HZ := hid ((Sts.shutSnk hz.tail))
    clear hz HB
    go_wp2_with fail
    go_ret
    exact ⟨rfl, HZ.out⟩
set_option maxRecDepth 100000 in
set_option maxHeartbeats 4000000 in
theorem cTakeKFwd (hv : p.validB = true) (i1 : (p.src == s1.src) = true) (i2 : (p.num == s1.num) = true) (hf : Fil.fwdB p.kind = false) : Calls Try.prog 36 #[.pointer (some ⟨q, 0, none⟩), .agg p.cells, .int .i64 now] w fun e w' => e = .returned (.int .i64 1) ∧ Sts W (snkP q s1 :: l) w' := by
  have HPC : p.cells = #[.int .i64 p.kind, .int .i64 p.src, .int .i64 p.num, .int .i64 p.cls, .string p.name, .int .i64 p.size, .int .i64 p.off, .slice p.da p.data.length p.dc, .int .u32 (p.sum : Nat), .int .i64 p.code, .slice p.ga p.gaps.length p.gc] := rfl
  rw [HPC]
  clear HPC
  have hls : ∀ B ∈ snkP q s :: l, Stable B := stabC (snkP_stable _ _) hl
  have hz := hs.alloc hls (.cells #[.int .i64 p.kind, .int .i64 p.src, .int .i64 p.num, .int .i64 p.cls, .string p.name, .int .i64 p.size, .int .i64 p.off, .slice p.da p.data.length p.dc, .int .u32 (p.sum : Nat), .int .i64 p.code, .slice p.ga p.gaps.length p.gc] 45)
  have hbl : ∀ B ∈ blkP w.heap.size (.cells #[.int .i64 p.kind, .int .i64 p.src, .int .i64 p.num, .int .i64 p.cls, .string p.name, .int .i64 p.size, .int .i64 p.off, .slice p.da p.data.length p.dc, .int .u32 (p.sum : Nat), .int .i64 p.code, .slice p.ga p.gaps.length p.gc] 45 (0, 0)) :: l, Stable B := stabC (blkP_stable _ _) hl
  have hP := cAdv hbl q s hz.swap now
  rw [hp1] at hP
  have HP := hid hP
  obtain ⟨dv0, wv0, h0⟩ := Sts.openSnk hz.swap
  have k0 := (Sts.snkC h0).k0
  have HOK := hid (cVal _ q k0)
  have HL := hid hl
  have HBL := hid hbl
  have HG := hid hg
  clear hP h0 hz hs hl hbl k0 hp1 hls hg
  go_enter Try.func36, Try.ntmps36
  go_wp2_with (first | (go_at_call 81; refine HOK.out.mono ?_; rintro e w2 ⟨rfl, rfl⟩) | (go_at_call 82; refine HP.out.mono ?_; rintro e w1 ⟨rfl, h1⟩; obtain ⟨dv, wv, h2⟩ := Sts.openSnk h1; have HB := hid (h2.perm (List.perm_middle (l₁ := [_, _, _]) (l₂ := l))); clear h1 h2))
  have HLB := hid (stabC (blkP_stable w.heap.size (.cells #[.int .i64 p.kind, .int .i64 p.src, .int .i64 p.num, .int .i64 p.cls, .string p.name, .int .i64 p.size, .int .i64 p.off, .slice p.da p.data.length p.dc, .int .u32 (p.sum : Nat), .int .i64 p.code, .slice p.ga p.gaps.length p.gc] 45 (0, 0))) (stabC (blkP_stable q (.cells (s1.cells dv wv) 109 (0, 0))) (stabC (rowP_stable 5 1 dv s1.data.length (u8s s1.data)) (stabC (rowP_stable 81 2 wv s1.got.length (Fil.rcells s1.got)) HL.out))))
  have hgb : ∀ y, Sts W (blkP w.heap.size (.cells #[.int .i64 p.kind, .int .i64 p.src, .int .i64 p.num, .int .i64 p.cls, .string p.name, .int .i64 p.size, .int .i64 p.off, .slice p.da p.data.length p.dc, .int .u32 (p.sum : Nat), .int .i64 p.code, .slice p.ga p.gaps.length p.gc] 45 (0, 0)) :: blkP q (.cells (s1.cells dv wv) 109 (0, 0)) :: rowP 5 1 dv s1.data.length (u8s s1.data) :: rowP 81 2 wv s1.got.length (Fil.rcells s1.got) :: l) y → RdR y (.slice p.ga p.gaps.length p.gc) p.gaps := fun y hy => HG.out _ y (Sts.shutSnk hy.tail)
  refine wp_region_ord (.pure 0 (.eff 1 (.pure 2 (.pure 3 (.pure 4 (.pure 5 (.pure 6 (.pure 7 (.pure 8 (.pure 9 (.pure 10 (.pure 11 (.pure 12 (.pure 13 (.pure 14 (.eff 15 (.pure 16 (.pure 17 .nil)))))))))))))))))) (fun y => SnkC y q s1 dv wv ∧ PduC y w.heap.size p) (fun y => Sts W (blkP w.heap.size (.cells #[.int .i64 p.kind, .int .i64 p.src, .int .i64 p.num, .int .i64 p.cls, .string p.name, .int .i64 p.size, .int .i64 p.off, .slice p.da p.data.length p.dc, .int .u32 (p.sum : Nat), .int .i64 p.code, .slice p.ga p.gaps.length p.gc] 45 (0, 0)) :: blkP q (.cells (s1.cells dv wv) 109 (0, 0)) :: rowP 5 1 dv s1.data.length (u8s s1.data) :: rowP 81 2 wv s1.got.length (Fil.rcells s1.got) :: l) y) (by kernel_rfl) (by kernel_rfl) (HB.out.drew HLB.out) (fun y hy => ⟨Sts.snkC hy.tail, ⟨(Sts.boxCell hy 0 _ rfl).1, (Sts.boxCell hy 1 _ rfl).1, (Sts.boxCell hy 2 _ rfl).1, (Sts.boxCell hy 3 _ rfl).1, (Sts.boxCell hy 4 _ rfl).1, (Sts.boxCell hy 5 _ rfl).1, (Sts.boxCell hy 6 _ rfl).1, (Sts.boxCell hy 7 _ rfl).1, (Sts.boxCell hy 8 _ rfl).1, (Sts.boxCell hy 9 _ rfl).1, (Sts.boxCell hy 10 _ rfl).1⟩⟩) ?_
  apply ord_pure (ho := rfl)
  · go_simp
  · intro x hx; obtain ⟨hC, hP⟩ := hx; have k1 := hC.k1; have k2 := hC.k2; have p0 := hP.c0; have p1 := hP.c1; have p2 := hP.c2; have p3 := hP.c3; have p4 := hP.c4; have p5 := hP.c5; have p6 := hP.c6; have p7 := hP.c7; have p8 := hP.c8; have p9 := hP.c9; have p10 := hP.c10; clear hC hP; go_simp; rfl
  apply ord_norm
  · go_simp; rfl
  apply ord_eff (ho := rfl)
  · go_simp
  intro y hy
  refine eff_call (f := 54) (by go_simp; rfl) (cValid y p hname hdata (by omega) (hgb y hy)) ?_
  rintro e w2 ⟨rfl, hb⟩
  refine ⟨_, rfl, (fun y => SnkC y q s1 dv wv ∧ PduC y w.heap.size p), (fun y => Sts W (blkP w.heap.size (.cells #[.int .i64 p.kind, .int .i64 p.src, .int .i64 p.num, .int .i64 p.cls, .string p.name, .int .i64 p.size, .int .i64 p.off, .slice p.da p.data.length p.dc, .int .u32 (p.sum : Nat), .int .i64 p.code, .slice p.ga p.gaps.length p.gc] 45 (0, 0)) :: blkP q (.cells (s1.cells dv wv) 109 (0, 0)) :: rowP 5 1 dv s1.data.length (u8s s1.data) :: rowP 81 2 wv s1.got.length (Fil.rcells s1.got) :: l) y), hy.quiet HLB.out hb, (fun y hy => ⟨Sts.snkC hy.tail, ⟨(Sts.boxCell hy 0 _ rfl).1, (Sts.boxCell hy 1 _ rfl).1, (Sts.boxCell hy 2 _ rfl).1, (Sts.boxCell hy 3 _ rfl).1, (Sts.boxCell hy 4 _ rfl).1, (Sts.boxCell hy 5 _ rfl).1, (Sts.boxCell hy 6 _ rfl).1, (Sts.boxCell hy 7 _ rfl).1, (Sts.boxCell hy 8 _ rfl).1, (Sts.boxCell hy 9 _ rfl).1, (Sts.boxCell hy 10 _ rfl).1⟩⟩), (fun _ h => h), ?_⟩
  rw [hv]
  clear hb hy y
  apply ord_norm
  · go_simp; rfl
  iterate 2
    (apply ord_pure (ho := rfl)
     · go_simp
     · intro x hx; obtain ⟨hC, hP⟩ := hx; have k1 := hC.k1; have k2 := hC.k2; have p0 := hP.c0; have p1 := hP.c1; have p2 := hP.c2; have p3 := hP.c3; have p4 := hP.c4; have p5 := hP.c5; have p6 := hP.c6; have p7 := hP.c7; have p8 := hP.c8; have p9 := hP.c9; have p10 := hP.c10; clear hC hP; go_simp; rfl
     apply ord_norm
     · go_simp; rfl)
  iterate 7
    (apply ord_pure (ho := rfl)
     · go_simp
     · intro x hx; obtain ⟨hC, hP⟩ := hx; have k1 := hC.k1; have k2 := hC.k2; have p0 := hP.c0; have p1 := hP.c1; have p2 := hP.c2; have p3 := hP.c3; have p4 := hP.c4; have p5 := hP.c5; have p6 := hP.c6; have p7 := hP.c7; have p8 := hP.c8; have p9 := hP.c9; have p10 := hP.c10; clear hC hP; go_simp; rfl
     apply ord_norm
     · go_simp; rfl)
  iterate 2
    (apply ord_pure (ho := rfl)
     · go_simp
     · intro x hx; obtain ⟨hC, hP⟩ := hx; have k1 := hC.k1; have k2 := hC.k2; have p0 := hP.c0; have p1 := hP.c1; have p2 := hP.c2; have p3 := hP.c3; have p4 := hP.c4; have p5 := hP.c5; have p6 := hP.c6; have p7 := hP.c7; have p8 := hP.c8; have p9 := hP.c9; have p10 := hP.c10; clear hC hP; go_simp; rfl
     apply ord_norm
     · go_simp; rfl)
  iterate 2
    (apply ord_pure (ho := rfl)
     · go_simp
     · intro x hx; obtain ⟨hC, hP⟩ := hx; have k1 := hC.k1; have k2 := hC.k2; have p0 := hP.c0; have p1 := hP.c1; have p2 := hP.c2; have p3 := hP.c3; have p4 := hP.c4; have p5 := hP.c5; have p6 := hP.c6; have p7 := hP.c7; have p8 := hP.c8; have p9 := hP.c9; have p10 := hP.c10; clear hC hP; go_simp; rfl
     apply ord_norm
     · go_simp; rfl)
  apply ord_eff (ho := rfl)
  · go_simp
  intro y hy
  refine eff_call (f := 68) (by go_simp) (cForward y p.kind) ?_
  rintro e w2 ⟨rfl, rfl⟩
  refine ⟨_, rfl, (fun y => SnkC y q s1 dv wv ∧ PduC y w.heap.size p), (fun y => Sts W (blkP w.heap.size (.cells #[.int .i64 p.kind, .int .i64 p.src, .int .i64 p.num, .int .i64 p.cls, .string p.name, .int .i64 p.size, .int .i64 p.off, .slice p.da p.data.length p.dc, .int .u32 (p.sum : Nat), .int .i64 p.code, .slice p.ga p.gaps.length p.gc] 45 (0, 0)) :: blkP q (.cells (s1.cells dv wv) 109 (0, 0)) :: rowP 5 1 dv s1.data.length (u8s s1.data) :: rowP 81 2 wv s1.got.length (Fil.rcells s1.got) :: l) y), hy, (fun y hy => ⟨Sts.snkC hy.tail, ⟨(Sts.boxCell hy 0 _ rfl).1, (Sts.boxCell hy 1 _ rfl).1, (Sts.boxCell hy 2 _ rfl).1, (Sts.boxCell hy 3 _ rfl).1, (Sts.boxCell hy 4 _ rfl).1, (Sts.boxCell hy 5 _ rfl).1, (Sts.boxCell hy 6 _ rfl).1, (Sts.boxCell hy 7 _ rfl).1, (Sts.boxCell hy 8 _ rfl).1, (Sts.boxCell hy 9 _ rfl).1, (Sts.boxCell hy 10 _ rfl).1⟩⟩), (fun _ h => h), ?_⟩
  rw [hf]
  clear hy y
  apply ord_norm
  · go_simp; rfl
  iterate 2
    (apply ord_pure (ho := rfl)
     · go_simp
     · intro x hx; obtain ⟨hC, hP⟩ := hx; have k1 := hC.k1; have k2 := hC.k2; have p0 := hP.c0; have p1 := hP.c1; have p2 := hP.c2; have p3 := hP.c3; have p4 := hP.c4; have p5 := hP.c5; have p6 := hP.c6; have p7 := hP.c7; have p8 := hP.c8; have p9 := hP.c9; have p10 := hP.c10; clear hC hP; go_simp; rfl
     apply ord_norm
     · go_simp; rfl)
  refine ord_nil fun z hz => ?_
  have HZ := hid ((Sts.shutSnk hz.tail))
  clear hz HB
  go_wp2_with fail
  go_ret
  exact ⟨rfl, HZ.out⟩
set_option maxRecDepth 100000 in
set_option maxHeartbeats 4000000 in
theorem cTakeKCls (hv : p.validB = true) (i1 : (p.src == s1.src) = true) (i2 : (p.num == s1.num) = true) (hf : Fil.fwdB p.kind = true) (hc : ((p.kind == 1) = true ∧ (p.cls != s1.cls) = true) ∨ ((p.kind == 1) = false ∧ (p.kind == 3) = true ∧ (p.cls != s1.cls) = true)) : Calls Try.prog 36 #[.pointer (some ⟨q, 0, none⟩), .agg p.cells, .int .i64 now] w fun e w' => e = .returned (.int .i64 1) ∧ Sts W (snkP q s1 :: l) w' := by
  rcases hc with ⟨a1, a3⟩ | ⟨a1, a2, a3⟩
  all_goals
    have HPC : p.cells = #[.int .i64 p.kind, .int .i64 p.src, .int .i64 p.num, .int .i64 p.cls, .string p.name, .int .i64 p.size, .int .i64 p.off, .slice p.da p.data.length p.dc, .int .u32 (p.sum : Nat), .int .i64 p.code, .slice p.ga p.gaps.length p.gc] := rfl
    rw [HPC]
    clear HPC
    have hls : ∀ B ∈ snkP q s :: l, Stable B := stabC (snkP_stable _ _) hl
    have hz := hs.alloc hls (.cells #[.int .i64 p.kind, .int .i64 p.src, .int .i64 p.num, .int .i64 p.cls, .string p.name, .int .i64 p.size, .int .i64 p.off, .slice p.da p.data.length p.dc, .int .u32 (p.sum : Nat), .int .i64 p.code, .slice p.ga p.gaps.length p.gc] 45)
    have hbl : ∀ B ∈ blkP w.heap.size (.cells #[.int .i64 p.kind, .int .i64 p.src, .int .i64 p.num, .int .i64 p.cls, .string p.name, .int .i64 p.size, .int .i64 p.off, .slice p.da p.data.length p.dc, .int .u32 (p.sum : Nat), .int .i64 p.code, .slice p.ga p.gaps.length p.gc] 45 (0, 0)) :: l, Stable B := stabC (blkP_stable _ _) hl
    have hP := cAdv hbl q s hz.swap now
    rw [hp1] at hP
    have HP := hid hP
    obtain ⟨dv0, wv0, h0⟩ := Sts.openSnk hz.swap
    have k0 := (Sts.snkC h0).k0
    have HOK := hid (cVal _ q k0)
    have HL := hid hl
    have HBL := hid hbl
    have HG := hid hg
    clear hP h0 hz hs hl hbl k0 hp1 hls hg
    go_enter Try.func36, Try.ntmps36
    go_wp2_with (first | (go_at_call 81; refine HOK.out.mono ?_; rintro e w2 ⟨rfl, rfl⟩) | (go_at_call 82; refine HP.out.mono ?_; rintro e w1 ⟨rfl, h1⟩; obtain ⟨dv, wv, h2⟩ := Sts.openSnk h1; have HB := hid (h2.perm (List.perm_middle (l₁ := [_, _, _]) (l₂ := l))); clear h1 h2))
    have HLB := hid (stabC (blkP_stable w.heap.size (.cells #[.int .i64 p.kind, .int .i64 p.src, .int .i64 p.num, .int .i64 p.cls, .string p.name, .int .i64 p.size, .int .i64 p.off, .slice p.da p.data.length p.dc, .int .u32 (p.sum : Nat), .int .i64 p.code, .slice p.ga p.gaps.length p.gc] 45 (0, 0))) (stabC (blkP_stable q (.cells (s1.cells dv wv) 109 (0, 0))) (stabC (rowP_stable 5 1 dv s1.data.length (u8s s1.data)) (stabC (rowP_stable 81 2 wv s1.got.length (Fil.rcells s1.got)) HL.out))))
    have hgb : ∀ y, Sts W (blkP w.heap.size (.cells #[.int .i64 p.kind, .int .i64 p.src, .int .i64 p.num, .int .i64 p.cls, .string p.name, .int .i64 p.size, .int .i64 p.off, .slice p.da p.data.length p.dc, .int .u32 (p.sum : Nat), .int .i64 p.code, .slice p.ga p.gaps.length p.gc] 45 (0, 0)) :: blkP q (.cells (s1.cells dv wv) 109 (0, 0)) :: rowP 5 1 dv s1.data.length (u8s s1.data) :: rowP 81 2 wv s1.got.length (Fil.rcells s1.got) :: l) y → RdR y (.slice p.ga p.gaps.length p.gc) p.gaps := fun y hy => HG.out _ y (Sts.shutSnk hy.tail)
    refine wp_region_ord (.pure 0 (.eff 1 (.pure 2 (.pure 3 (.pure 4 (.pure 5 (.pure 6 (.pure 7 (.pure 8 (.pure 9 (.pure 10 (.pure 11 (.pure 12 (.pure 13 (.pure 14 (.eff 15 (.pure 16 (.pure 17 .nil)))))))))))))))))) (fun y => SnkC y q s1 dv wv ∧ PduC y w.heap.size p) (fun y => Sts W (blkP w.heap.size (.cells #[.int .i64 p.kind, .int .i64 p.src, .int .i64 p.num, .int .i64 p.cls, .string p.name, .int .i64 p.size, .int .i64 p.off, .slice p.da p.data.length p.dc, .int .u32 (p.sum : Nat), .int .i64 p.code, .slice p.ga p.gaps.length p.gc] 45 (0, 0)) :: blkP q (.cells (s1.cells dv wv) 109 (0, 0)) :: rowP 5 1 dv s1.data.length (u8s s1.data) :: rowP 81 2 wv s1.got.length (Fil.rcells s1.got) :: l) y) (by kernel_rfl) (by kernel_rfl) (HB.out.drew HLB.out) (fun y hy => ⟨Sts.snkC hy.tail, ⟨(Sts.boxCell hy 0 _ rfl).1, (Sts.boxCell hy 1 _ rfl).1, (Sts.boxCell hy 2 _ rfl).1, (Sts.boxCell hy 3 _ rfl).1, (Sts.boxCell hy 4 _ rfl).1, (Sts.boxCell hy 5 _ rfl).1, (Sts.boxCell hy 6 _ rfl).1, (Sts.boxCell hy 7 _ rfl).1, (Sts.boxCell hy 8 _ rfl).1, (Sts.boxCell hy 9 _ rfl).1, (Sts.boxCell hy 10 _ rfl).1⟩⟩) ?_
    apply ord_pure (ho := rfl)
    · go_simp
    · intro x hx; obtain ⟨hC, hP⟩ := hx; have k1 := hC.k1; have k2 := hC.k2; have p0 := hP.c0; have p1 := hP.c1; have p2 := hP.c2; have p3 := hP.c3; have p4 := hP.c4; have p5 := hP.c5; have p6 := hP.c6; have p7 := hP.c7; have p8 := hP.c8; have p9 := hP.c9; have p10 := hP.c10; clear hC hP; go_simp; rfl
    apply ord_norm
    · go_simp; rfl
    apply ord_eff (ho := rfl)
    · go_simp
    intro y hy
    refine eff_call (f := 54) (by go_simp; rfl) (cValid y p hname hdata (by omega) (hgb y hy)) ?_
    rintro e w2 ⟨rfl, hb⟩
    refine ⟨_, rfl, (fun y => SnkC y q s1 dv wv ∧ PduC y w.heap.size p), (fun y => Sts W (blkP w.heap.size (.cells #[.int .i64 p.kind, .int .i64 p.src, .int .i64 p.num, .int .i64 p.cls, .string p.name, .int .i64 p.size, .int .i64 p.off, .slice p.da p.data.length p.dc, .int .u32 (p.sum : Nat), .int .i64 p.code, .slice p.ga p.gaps.length p.gc] 45 (0, 0)) :: blkP q (.cells (s1.cells dv wv) 109 (0, 0)) :: rowP 5 1 dv s1.data.length (u8s s1.data) :: rowP 81 2 wv s1.got.length (Fil.rcells s1.got) :: l) y), hy.quiet HLB.out hb, (fun y hy => ⟨Sts.snkC hy.tail, ⟨(Sts.boxCell hy 0 _ rfl).1, (Sts.boxCell hy 1 _ rfl).1, (Sts.boxCell hy 2 _ rfl).1, (Sts.boxCell hy 3 _ rfl).1, (Sts.boxCell hy 4 _ rfl).1, (Sts.boxCell hy 5 _ rfl).1, (Sts.boxCell hy 6 _ rfl).1, (Sts.boxCell hy 7 _ rfl).1, (Sts.boxCell hy 8 _ rfl).1, (Sts.boxCell hy 9 _ rfl).1, (Sts.boxCell hy 10 _ rfl).1⟩⟩), (fun _ h => h), ?_⟩
    rw [hv]
    clear hb hy y
    apply ord_norm
    · go_simp; rfl
    iterate 2
      (apply ord_pure (ho := rfl)
       · go_simp
       · intro x hx; obtain ⟨hC, hP⟩ := hx; have k1 := hC.k1; have k2 := hC.k2; have p0 := hP.c0; have p1 := hP.c1; have p2 := hP.c2; have p3 := hP.c3; have p4 := hP.c4; have p5 := hP.c5; have p6 := hP.c6; have p7 := hP.c7; have p8 := hP.c8; have p9 := hP.c9; have p10 := hP.c10; clear hC hP; go_simp; rfl
       apply ord_norm
       · go_simp; rfl)
    iterate 7
      (apply ord_pure (ho := rfl)
       · go_simp
       · intro x hx; obtain ⟨hC, hP⟩ := hx; have k1 := hC.k1; have k2 := hC.k2; have p0 := hP.c0; have p1 := hP.c1; have p2 := hP.c2; have p3 := hP.c3; have p4 := hP.c4; have p5 := hP.c5; have p6 := hP.c6; have p7 := hP.c7; have p8 := hP.c8; have p9 := hP.c9; have p10 := hP.c10; clear hC hP; go_simp; rfl
       apply ord_norm
       · go_simp; rfl)
    iterate 2
      (apply ord_pure (ho := rfl)
       · go_simp
       · intro x hx; obtain ⟨hC, hP⟩ := hx; have k1 := hC.k1; have k2 := hC.k2; have p0 := hP.c0; have p1 := hP.c1; have p2 := hP.c2; have p3 := hP.c3; have p4 := hP.c4; have p5 := hP.c5; have p6 := hP.c6; have p7 := hP.c7; have p8 := hP.c8; have p9 := hP.c9; have p10 := hP.c10; clear hC hP; go_simp; rfl
       apply ord_norm
       · go_simp; rfl)
    iterate 2
      (apply ord_pure (ho := rfl)
       · go_simp
       · intro x hx; obtain ⟨hC, hP⟩ := hx; have k1 := hC.k1; have k2 := hC.k2; have p0 := hP.c0; have p1 := hP.c1; have p2 := hP.c2; have p3 := hP.c3; have p4 := hP.c4; have p5 := hP.c5; have p6 := hP.c6; have p7 := hP.c7; have p8 := hP.c8; have p9 := hP.c9; have p10 := hP.c10; clear hC hP; go_simp; rfl
       apply ord_norm
       · go_simp; rfl)
    apply ord_eff (ho := rfl)
    · go_simp
    intro y hy
    refine eff_call (f := 68) (by go_simp) (cForward y p.kind) ?_
    rintro e w2 ⟨rfl, rfl⟩
    refine ⟨_, rfl, (fun y => SnkC y q s1 dv wv ∧ PduC y w.heap.size p), (fun y => Sts W (blkP w.heap.size (.cells #[.int .i64 p.kind, .int .i64 p.src, .int .i64 p.num, .int .i64 p.cls, .string p.name, .int .i64 p.size, .int .i64 p.off, .slice p.da p.data.length p.dc, .int .u32 (p.sum : Nat), .int .i64 p.code, .slice p.ga p.gaps.length p.gc] 45 (0, 0)) :: blkP q (.cells (s1.cells dv wv) 109 (0, 0)) :: rowP 5 1 dv s1.data.length (u8s s1.data) :: rowP 81 2 wv s1.got.length (Fil.rcells s1.got) :: l) y), hy, (fun y hy => ⟨Sts.snkC hy.tail, ⟨(Sts.boxCell hy 0 _ rfl).1, (Sts.boxCell hy 1 _ rfl).1, (Sts.boxCell hy 2 _ rfl).1, (Sts.boxCell hy 3 _ rfl).1, (Sts.boxCell hy 4 _ rfl).1, (Sts.boxCell hy 5 _ rfl).1, (Sts.boxCell hy 6 _ rfl).1, (Sts.boxCell hy 7 _ rfl).1, (Sts.boxCell hy 8 _ rfl).1, (Sts.boxCell hy 9 _ rfl).1, (Sts.boxCell hy 10 _ rfl).1⟩⟩), (fun _ h => h), ?_⟩
    rw [hf]
    clear hy y
    apply ord_norm
    · go_simp; rfl
    iterate 2
      (apply ord_pure (ho := rfl)
       · go_simp
       · intro x hx; obtain ⟨hC, hP⟩ := hx; have k1 := hC.k1; have k2 := hC.k2; have p0 := hP.c0; have p1 := hP.c1; have p2 := hP.c2; have p3 := hP.c3; have p4 := hP.c4; have p5 := hP.c5; have p6 := hP.c6; have p7 := hP.c7; have p8 := hP.c8; have p9 := hP.c9; have p10 := hP.c10; clear hC hP; go_simp; rfl
       apply ord_norm
       · go_simp; rfl)
    refine ord_nil fun z hz => ?_
    have k3 := (Sts.snkC hz.tail).k3
    have p0 := (Sts.boxCell hz 0 _ rfl).1
    have p3 := (Sts.boxCell hz 3 _ rfl).1
    have HN : Hid (∀ n, Sts W (snkP q s1 :: blkP w.heap.size (.cells #[.int .i64 p.kind, .int .i64 p.src, .int .i64 p.num, .int .i64 p.cls, .string p.name, .int .i64 p.size, .int .i64 p.off, .slice p.da p.data.length p.dc, .int .u32 (p.sum : Nat), .int .i64 p.code, .slice p.ga p.gaps.length p.gc] 45 (0, 0)) :: l) (z.drewN n)) := hid fun n => Sts.shutSnk ((hz.quiet HLB.out (below_drewN (Below.refl _ _) n)).perm (List.perm_middle (l₁ := [_, _, _]) (l₂ := l)).symm)
    clear hz HB
    go_wp2_with fail
    go_quiet (fail)
    go_wp2_with fail
    go_ret
    exact ⟨rfl, (HN.out _).swap.tail⟩
set_option maxRecDepth 100000 in
set_option maxHeartbeats 4000000 in
theorem cTakeKOk (hv : p.validB = true) (i1 : (p.src == s1.src) = true) (i2 : (p.num == s1.num) = true) (hf : Fil.fwdB p.kind = true) (hc : ((p.kind == 1) = false ∧ (p.kind == 3) = false) ∨ ((p.kind == 1) = true ∧ (p.cls != s1.cls) = false) ∨ ((p.kind == 1) = false ∧ (p.kind == 3) = true ∧ (p.cls != s1.cls) = false)) (hdn0 : p.kind = 3 → s1.don = false) (hft : s1.Fit) (h9 : s1.got.length < 800000) (hd : RdP W l p) (hpc : p.kind = 2 → 0 ≤ p.off ∧ 0 < p.data.length ∧ p.off + p.data.length ≤ 100000) (s2 : Fil.Snk) (n : Int) (hr : s1.recV p = (s2, n)) (hn0 : n = 0) (hf2 : s2.Fit) : Calls Try.prog 36 #[.pointer (some ⟨q, 0, none⟩), .agg p.cells, .int .i64 now] w fun e w' => e = .returned (.int .i64 0) ∧ Sts W (snkP q s2.checkV :: l) w' := by
  have HRC : Hid (∀ y, Sts W (snkP q s1 :: blkP w.heap.size (.cells #[.int .i64 p.kind, .int .i64 p.src, .int .i64 p.num, .int .i64 p.cls, .string p.name, .int .i64 p.size, .int .i64 p.off, .slice p.da p.data.length p.dc, .int .u32 (p.sum : Nat), .int .i64 p.code, .slice p.ga p.gaps.length p.gc] 45 (0, 0)) :: l) y → Calls Try.prog 83 #[.pointer (some ⟨q, 0, none⟩), .agg p.cells] y fun e w' => e = .returned (.int .i64 n) ∧ Sts W (snkP q s2 :: blkP w.heap.size (.cells #[.int .i64 p.kind, .int .i64 p.src, .int .i64 p.num, .int .i64 p.cls, .string p.name, .int .i64 p.size, .int .i64 p.off, .slice p.da p.data.length p.dc, .int .u32 (p.sum : Nat), .int .i64 p.code, .slice p.ga p.gaps.length p.gc] 45 (0, 0)) :: l) w') := hid fun y hy => by
    have h := cRecK (stabC (blkP_stable _ _) hl) q s1 p hy hdn0 hft h9 hd.more hpc
    rw [hr] at h
    exact h
  have HF2 := hid hf2
  clear hft h9 hd hpc hr hdn0 hf2
  subst hn0
  rcases hc with ⟨a1, a2⟩ | ⟨a1, a3⟩ | ⟨a1, a2, a3⟩
  all_goals
    have HPC : p.cells = #[.int .i64 p.kind, .int .i64 p.src, .int .i64 p.num, .int .i64 p.cls, .string p.name, .int .i64 p.size, .int .i64 p.off, .slice p.da p.data.length p.dc, .int .u32 (p.sum : Nat), .int .i64 p.code, .slice p.ga p.gaps.length p.gc] := rfl
    rw [HPC]
    clear HPC
    have hls : ∀ B ∈ snkP q s :: l, Stable B := stabC (snkP_stable _ _) hl
    have hz := hs.alloc hls (.cells #[.int .i64 p.kind, .int .i64 p.src, .int .i64 p.num, .int .i64 p.cls, .string p.name, .int .i64 p.size, .int .i64 p.off, .slice p.da p.data.length p.dc, .int .u32 (p.sum : Nat), .int .i64 p.code, .slice p.ga p.gaps.length p.gc] 45)
    have hbl : ∀ B ∈ blkP w.heap.size (.cells #[.int .i64 p.kind, .int .i64 p.src, .int .i64 p.num, .int .i64 p.cls, .string p.name, .int .i64 p.size, .int .i64 p.off, .slice p.da p.data.length p.dc, .int .u32 (p.sum : Nat), .int .i64 p.code, .slice p.ga p.gaps.length p.gc] 45 (0, 0)) :: l, Stable B := stabC (blkP_stable _ _) hl
    have hP := cAdv hbl q s hz.swap now
    rw [hp1] at hP
    have HP := hid hP
    obtain ⟨dv0, wv0, h0⟩ := Sts.openSnk hz.swap
    have k0 := (Sts.snkC h0).k0
    have HOK := hid (cVal _ q k0)
    have HL := hid hl
    have HBL := hid hbl
    have HG := hid hg
    clear hP h0 hz hs hl hbl k0 hp1 hls hg
    go_enter Try.func36, Try.ntmps36
    go_wp2_with (first | (go_at_call 81; refine HOK.out.mono ?_; rintro e w2 ⟨rfl, rfl⟩) | (go_at_call 82; refine HP.out.mono ?_; rintro e w1 ⟨rfl, h1⟩; obtain ⟨dv, wv, h2⟩ := Sts.openSnk h1; have HB := hid (h2.perm (List.perm_middle (l₁ := [_, _, _]) (l₂ := l))); clear h1 h2))
    have HLB := hid (stabC (blkP_stable w.heap.size (.cells #[.int .i64 p.kind, .int .i64 p.src, .int .i64 p.num, .int .i64 p.cls, .string p.name, .int .i64 p.size, .int .i64 p.off, .slice p.da p.data.length p.dc, .int .u32 (p.sum : Nat), .int .i64 p.code, .slice p.ga p.gaps.length p.gc] 45 (0, 0))) (stabC (blkP_stable q (.cells (s1.cells dv wv) 109 (0, 0))) (stabC (rowP_stable 5 1 dv s1.data.length (u8s s1.data)) (stabC (rowP_stable 81 2 wv s1.got.length (Fil.rcells s1.got)) HL.out))))
    have hgb : ∀ y, Sts W (blkP w.heap.size (.cells #[.int .i64 p.kind, .int .i64 p.src, .int .i64 p.num, .int .i64 p.cls, .string p.name, .int .i64 p.size, .int .i64 p.off, .slice p.da p.data.length p.dc, .int .u32 (p.sum : Nat), .int .i64 p.code, .slice p.ga p.gaps.length p.gc] 45 (0, 0)) :: blkP q (.cells (s1.cells dv wv) 109 (0, 0)) :: rowP 5 1 dv s1.data.length (u8s s1.data) :: rowP 81 2 wv s1.got.length (Fil.rcells s1.got) :: l) y → RdR y (.slice p.ga p.gaps.length p.gc) p.gaps := fun y hy => HG.out _ y (Sts.shutSnk hy.tail)
    refine wp_region_ord (.pure 0 (.eff 1 (.pure 2 (.pure 3 (.pure 4 (.pure 5 (.pure 6 (.pure 7 (.pure 8 (.pure 9 (.pure 10 (.pure 11 (.pure 12 (.pure 13 (.pure 14 (.eff 15 (.pure 16 (.pure 17 .nil)))))))))))))))))) (fun y => SnkC y q s1 dv wv ∧ PduC y w.heap.size p) (fun y => Sts W (blkP w.heap.size (.cells #[.int .i64 p.kind, .int .i64 p.src, .int .i64 p.num, .int .i64 p.cls, .string p.name, .int .i64 p.size, .int .i64 p.off, .slice p.da p.data.length p.dc, .int .u32 (p.sum : Nat), .int .i64 p.code, .slice p.ga p.gaps.length p.gc] 45 (0, 0)) :: blkP q (.cells (s1.cells dv wv) 109 (0, 0)) :: rowP 5 1 dv s1.data.length (u8s s1.data) :: rowP 81 2 wv s1.got.length (Fil.rcells s1.got) :: l) y) (by kernel_rfl) (by kernel_rfl) (HB.out.drew HLB.out) (fun y hy => ⟨Sts.snkC hy.tail, ⟨(Sts.boxCell hy 0 _ rfl).1, (Sts.boxCell hy 1 _ rfl).1, (Sts.boxCell hy 2 _ rfl).1, (Sts.boxCell hy 3 _ rfl).1, (Sts.boxCell hy 4 _ rfl).1, (Sts.boxCell hy 5 _ rfl).1, (Sts.boxCell hy 6 _ rfl).1, (Sts.boxCell hy 7 _ rfl).1, (Sts.boxCell hy 8 _ rfl).1, (Sts.boxCell hy 9 _ rfl).1, (Sts.boxCell hy 10 _ rfl).1⟩⟩) ?_
    apply ord_pure (ho := rfl)
    · go_simp
    · intro x hx; obtain ⟨hC, hP⟩ := hx; have k1 := hC.k1; have k2 := hC.k2; have p0 := hP.c0; have p1 := hP.c1; have p2 := hP.c2; have p3 := hP.c3; have p4 := hP.c4; have p5 := hP.c5; have p6 := hP.c6; have p7 := hP.c7; have p8 := hP.c8; have p9 := hP.c9; have p10 := hP.c10; clear hC hP; go_simp; rfl
    apply ord_norm
    · go_simp; rfl
    apply ord_eff (ho := rfl)
    · go_simp
    intro y hy
    refine eff_call (f := 54) (by go_simp; rfl) (cValid y p hname hdata (by omega) (hgb y hy)) ?_
    rintro e w2 ⟨rfl, hb⟩
    refine ⟨_, rfl, (fun y => SnkC y q s1 dv wv ∧ PduC y w.heap.size p), (fun y => Sts W (blkP w.heap.size (.cells #[.int .i64 p.kind, .int .i64 p.src, .int .i64 p.num, .int .i64 p.cls, .string p.name, .int .i64 p.size, .int .i64 p.off, .slice p.da p.data.length p.dc, .int .u32 (p.sum : Nat), .int .i64 p.code, .slice p.ga p.gaps.length p.gc] 45 (0, 0)) :: blkP q (.cells (s1.cells dv wv) 109 (0, 0)) :: rowP 5 1 dv s1.data.length (u8s s1.data) :: rowP 81 2 wv s1.got.length (Fil.rcells s1.got) :: l) y), hy.quiet HLB.out hb, (fun y hy => ⟨Sts.snkC hy.tail, ⟨(Sts.boxCell hy 0 _ rfl).1, (Sts.boxCell hy 1 _ rfl).1, (Sts.boxCell hy 2 _ rfl).1, (Sts.boxCell hy 3 _ rfl).1, (Sts.boxCell hy 4 _ rfl).1, (Sts.boxCell hy 5 _ rfl).1, (Sts.boxCell hy 6 _ rfl).1, (Sts.boxCell hy 7 _ rfl).1, (Sts.boxCell hy 8 _ rfl).1, (Sts.boxCell hy 9 _ rfl).1, (Sts.boxCell hy 10 _ rfl).1⟩⟩), (fun _ h => h), ?_⟩
    rw [hv]
    clear hb hy y
    apply ord_norm
    · go_simp; rfl
    iterate 2
      (apply ord_pure (ho := rfl)
       · go_simp
       · intro x hx; obtain ⟨hC, hP⟩ := hx; have k1 := hC.k1; have k2 := hC.k2; have p0 := hP.c0; have p1 := hP.c1; have p2 := hP.c2; have p3 := hP.c3; have p4 := hP.c4; have p5 := hP.c5; have p6 := hP.c6; have p7 := hP.c7; have p8 := hP.c8; have p9 := hP.c9; have p10 := hP.c10; clear hC hP; go_simp; rfl
       apply ord_norm
       · go_simp; rfl)
    iterate 7
      (apply ord_pure (ho := rfl)
       · go_simp
       · intro x hx; obtain ⟨hC, hP⟩ := hx; have k1 := hC.k1; have k2 := hC.k2; have p0 := hP.c0; have p1 := hP.c1; have p2 := hP.c2; have p3 := hP.c3; have p4 := hP.c4; have p5 := hP.c5; have p6 := hP.c6; have p7 := hP.c7; have p8 := hP.c8; have p9 := hP.c9; have p10 := hP.c10; clear hC hP; go_simp; rfl
       apply ord_norm
       · go_simp; rfl)
    iterate 2
      (apply ord_pure (ho := rfl)
       · go_simp
       · intro x hx; obtain ⟨hC, hP⟩ := hx; have k1 := hC.k1; have k2 := hC.k2; have p0 := hP.c0; have p1 := hP.c1; have p2 := hP.c2; have p3 := hP.c3; have p4 := hP.c4; have p5 := hP.c5; have p6 := hP.c6; have p7 := hP.c7; have p8 := hP.c8; have p9 := hP.c9; have p10 := hP.c10; clear hC hP; go_simp; rfl
       apply ord_norm
       · go_simp; rfl)
    iterate 2
      (apply ord_pure (ho := rfl)
       · go_simp
       · intro x hx; obtain ⟨hC, hP⟩ := hx; have k1 := hC.k1; have k2 := hC.k2; have p0 := hP.c0; have p1 := hP.c1; have p2 := hP.c2; have p3 := hP.c3; have p4 := hP.c4; have p5 := hP.c5; have p6 := hP.c6; have p7 := hP.c7; have p8 := hP.c8; have p9 := hP.c9; have p10 := hP.c10; clear hC hP; go_simp; rfl
       apply ord_norm
       · go_simp; rfl)
    apply ord_eff (ho := rfl)
    · go_simp
    intro y hy
    refine eff_call (f := 68) (by go_simp) (cForward y p.kind) ?_
    rintro e w2 ⟨rfl, rfl⟩
    refine ⟨_, rfl, (fun y => SnkC y q s1 dv wv ∧ PduC y w.heap.size p), (fun y => Sts W (blkP w.heap.size (.cells #[.int .i64 p.kind, .int .i64 p.src, .int .i64 p.num, .int .i64 p.cls, .string p.name, .int .i64 p.size, .int .i64 p.off, .slice p.da p.data.length p.dc, .int .u32 (p.sum : Nat), .int .i64 p.code, .slice p.ga p.gaps.length p.gc] 45 (0, 0)) :: blkP q (.cells (s1.cells dv wv) 109 (0, 0)) :: rowP 5 1 dv s1.data.length (u8s s1.data) :: rowP 81 2 wv s1.got.length (Fil.rcells s1.got) :: l) y), hy, (fun y hy => ⟨Sts.snkC hy.tail, ⟨(Sts.boxCell hy 0 _ rfl).1, (Sts.boxCell hy 1 _ rfl).1, (Sts.boxCell hy 2 _ rfl).1, (Sts.boxCell hy 3 _ rfl).1, (Sts.boxCell hy 4 _ rfl).1, (Sts.boxCell hy 5 _ rfl).1, (Sts.boxCell hy 6 _ rfl).1, (Sts.boxCell hy 7 _ rfl).1, (Sts.boxCell hy 8 _ rfl).1, (Sts.boxCell hy 9 _ rfl).1, (Sts.boxCell hy 10 _ rfl).1⟩⟩), (fun _ h => h), ?_⟩
    rw [hf]
    clear hy y
    apply ord_norm
    · go_simp; rfl
    iterate 2
      (apply ord_pure (ho := rfl)
       · go_simp
       · intro x hx; obtain ⟨hC, hP⟩ := hx; have k1 := hC.k1; have k2 := hC.k2; have p0 := hP.c0; have p1 := hP.c1; have p2 := hP.c2; have p3 := hP.c3; have p4 := hP.c4; have p5 := hP.c5; have p6 := hP.c6; have p7 := hP.c7; have p8 := hP.c8; have p9 := hP.c9; have p10 := hP.c10; clear hC hP; go_simp; rfl
       apply ord_norm
       · go_simp; rfl)
    refine ord_nil fun z hz => ?_
    have k3 := (Sts.snkC hz.tail).k3
    have p0 := (Sts.boxCell hz 0 _ rfl).1
    have p3 := (Sts.boxCell hz 3 _ rfl).1
    have HN : Hid (∀ n, Sts W (snkP q s1 :: blkP w.heap.size (.cells #[.int .i64 p.kind, .int .i64 p.src, .int .i64 p.num, .int .i64 p.cls, .string p.name, .int .i64 p.size, .int .i64 p.off, .slice p.da p.data.length p.dc, .int .u32 (p.sum : Nat), .int .i64 p.code, .slice p.ga p.gaps.length p.gc] 45 (0, 0)) :: l) (z.drewN n)) := hid fun n => Sts.shutSnk ((hz.quiet HLB.out (below_drewN (Below.refl _ _) n)).perm (List.perm_middle (l₁ := [_, _, _]) (l₂ := l)).symm)
    have HBX : Hid (∀ n, Sts W (blkP w.heap.size (.cells #[.int .i64 p.kind, .int .i64 p.src, .int .i64 p.num, .int .i64 p.cls, .string p.name, .int .i64 p.size, .int .i64 p.off, .slice p.da p.data.length p.dc, .int .u32 (p.sum : Nat), .int .i64 p.code, .slice p.ga p.gaps.length p.gc] 45 (0, 0)) :: snkP q s1 :: l) (z.drewN n)) := hid fun n => (HN.out n).swap
    clear hz HB
    go_wp2_with fail
    go_quiet (fail)
    go_wp2_with (first | (refine wpList_ld2 rfl (.tmp 4) 45 rfl rfl (.agg p.cells) (ldPdu rfl (HBX.out _)) ?_) | (go_at_call 83; refine (HRC.out _ (HN.out _)).mono ?_; rintro e w5 ⟨rfl, hw⟩; have HF := hid hw; clear hw) | (go_at_call 84; refine (cChkK (stabC (blkP_stable _ _) HL.out) q s2 HF.out HF2.out).mono ?_; rintro e w6 ⟨rfl, hw⟩; have HG := hid hw; clear hw))
    go_ret
    exact ⟨rfl, HG.out.swap.tail⟩
set_option maxRecDepth 100000 in
set_option maxHeartbeats 4000000 in
theorem cTakeKNo (hv : p.validB = true) (i1 : (p.src == s1.src) = true) (i2 : (p.num == s1.num) = true) (hf : Fil.fwdB p.kind = true) (hc : ((p.kind == 1) = false ∧ (p.kind == 3) = false) ∨ ((p.kind == 1) = true ∧ (p.cls != s1.cls) = false) ∨ ((p.kind == 1) = false ∧ (p.kind == 3) = true ∧ (p.cls != s1.cls) = false)) (hdn0 : p.kind = 3 → s1.don = false) (hft : s1.Fit) (h9 : s1.got.length < 800000) (hd : RdP W l p) (hpc : p.kind = 2 → 0 ≤ p.off ∧ 0 < p.data.length ∧ p.off + p.data.length ≤ 100000) (s2 : Fil.Snk) (n : Int) (hr : s1.recV p = (s2, n)) (hn0 : (n == 0) = false) : Calls Try.prog 36 #[.pointer (some ⟨q, 0, none⟩), .agg p.cells, .int .i64 now] w fun e w' => e = .returned (.int .i64 n) ∧ Sts W (snkP q s2 :: l) w' := by
  have HRC : Hid (∀ y, Sts W (snkP q s1 :: blkP w.heap.size (.cells #[.int .i64 p.kind, .int .i64 p.src, .int .i64 p.num, .int .i64 p.cls, .string p.name, .int .i64 p.size, .int .i64 p.off, .slice p.da p.data.length p.dc, .int .u32 (p.sum : Nat), .int .i64 p.code, .slice p.ga p.gaps.length p.gc] 45 (0, 0)) :: l) y → Calls Try.prog 83 #[.pointer (some ⟨q, 0, none⟩), .agg p.cells] y fun e w' => e = .returned (.int .i64 n) ∧ Sts W (snkP q s2 :: blkP w.heap.size (.cells #[.int .i64 p.kind, .int .i64 p.src, .int .i64 p.num, .int .i64 p.cls, .string p.name, .int .i64 p.size, .int .i64 p.off, .slice p.da p.data.length p.dc, .int .u32 (p.sum : Nat), .int .i64 p.code, .slice p.ga p.gaps.length p.gc] 45 (0, 0)) :: l) w') := hid fun y hy => by
    have h := cRecK (stabC (blkP_stable _ _) hl) q s1 p hy hdn0 hft h9 hd.more hpc
    rw [hr] at h
    exact h
  clear hft h9 hd hpc hr hdn0
  rcases hc with ⟨a1, a2⟩ | ⟨a1, a3⟩ | ⟨a1, a2, a3⟩
  all_goals
    have HPC : p.cells = #[.int .i64 p.kind, .int .i64 p.src, .int .i64 p.num, .int .i64 p.cls, .string p.name, .int .i64 p.size, .int .i64 p.off, .slice p.da p.data.length p.dc, .int .u32 (p.sum : Nat), .int .i64 p.code, .slice p.ga p.gaps.length p.gc] := rfl
    rw [HPC]
    clear HPC
    have hls : ∀ B ∈ snkP q s :: l, Stable B := stabC (snkP_stable _ _) hl
    have hz := hs.alloc hls (.cells #[.int .i64 p.kind, .int .i64 p.src, .int .i64 p.num, .int .i64 p.cls, .string p.name, .int .i64 p.size, .int .i64 p.off, .slice p.da p.data.length p.dc, .int .u32 (p.sum : Nat), .int .i64 p.code, .slice p.ga p.gaps.length p.gc] 45)
    have hbl : ∀ B ∈ blkP w.heap.size (.cells #[.int .i64 p.kind, .int .i64 p.src, .int .i64 p.num, .int .i64 p.cls, .string p.name, .int .i64 p.size, .int .i64 p.off, .slice p.da p.data.length p.dc, .int .u32 (p.sum : Nat), .int .i64 p.code, .slice p.ga p.gaps.length p.gc] 45 (0, 0)) :: l, Stable B := stabC (blkP_stable _ _) hl
    have hP := cAdv hbl q s hz.swap now
    rw [hp1] at hP
    have HP := hid hP
    obtain ⟨dv0, wv0, h0⟩ := Sts.openSnk hz.swap
    have k0 := (Sts.snkC h0).k0
    have HOK := hid (cVal _ q k0)
    have HL := hid hl
    have HBL := hid hbl
    have HG := hid hg
    clear hP h0 hz hs hl hbl k0 hp1 hls hg
    go_enter Try.func36, Try.ntmps36
    go_wp2_with (first | (go_at_call 81; refine HOK.out.mono ?_; rintro e w2 ⟨rfl, rfl⟩) | (go_at_call 82; refine HP.out.mono ?_; rintro e w1 ⟨rfl, h1⟩; obtain ⟨dv, wv, h2⟩ := Sts.openSnk h1; have HB := hid (h2.perm (List.perm_middle (l₁ := [_, _, _]) (l₂ := l))); clear h1 h2))
    have HLB := hid (stabC (blkP_stable w.heap.size (.cells #[.int .i64 p.kind, .int .i64 p.src, .int .i64 p.num, .int .i64 p.cls, .string p.name, .int .i64 p.size, .int .i64 p.off, .slice p.da p.data.length p.dc, .int .u32 (p.sum : Nat), .int .i64 p.code, .slice p.ga p.gaps.length p.gc] 45 (0, 0))) (stabC (blkP_stable q (.cells (s1.cells dv wv) 109 (0, 0))) (stabC (rowP_stable 5 1 dv s1.data.length (u8s s1.data)) (stabC (rowP_stable 81 2 wv s1.got.length (Fil.rcells s1.got)) HL.out))))
    have hgb : ∀ y, Sts W (blkP w.heap.size (.cells #[.int .i64 p.kind, .int .i64 p.src, .int .i64 p.num, .int .i64 p.cls, .string p.name, .int .i64 p.size, .int .i64 p.off, .slice p.da p.data.length p.dc, .int .u32 (p.sum : Nat), .int .i64 p.code, .slice p.ga p.gaps.length p.gc] 45 (0, 0)) :: blkP q (.cells (s1.cells dv wv) 109 (0, 0)) :: rowP 5 1 dv s1.data.length (u8s s1.data) :: rowP 81 2 wv s1.got.length (Fil.rcells s1.got) :: l) y → RdR y (.slice p.ga p.gaps.length p.gc) p.gaps := fun y hy => HG.out _ y (Sts.shutSnk hy.tail)
    refine wp_region_ord (.pure 0 (.eff 1 (.pure 2 (.pure 3 (.pure 4 (.pure 5 (.pure 6 (.pure 7 (.pure 8 (.pure 9 (.pure 10 (.pure 11 (.pure 12 (.pure 13 (.pure 14 (.eff 15 (.pure 16 (.pure 17 .nil)))))))))))))))))) (fun y => SnkC y q s1 dv wv ∧ PduC y w.heap.size p) (fun y => Sts W (blkP w.heap.size (.cells #[.int .i64 p.kind, .int .i64 p.src, .int .i64 p.num, .int .i64 p.cls, .string p.name, .int .i64 p.size, .int .i64 p.off, .slice p.da p.data.length p.dc, .int .u32 (p.sum : Nat), .int .i64 p.code, .slice p.ga p.gaps.length p.gc] 45 (0, 0)) :: blkP q (.cells (s1.cells dv wv) 109 (0, 0)) :: rowP 5 1 dv s1.data.length (u8s s1.data) :: rowP 81 2 wv s1.got.length (Fil.rcells s1.got) :: l) y) (by kernel_rfl) (by kernel_rfl) (HB.out.drew HLB.out) (fun y hy => ⟨Sts.snkC hy.tail, ⟨(Sts.boxCell hy 0 _ rfl).1, (Sts.boxCell hy 1 _ rfl).1, (Sts.boxCell hy 2 _ rfl).1, (Sts.boxCell hy 3 _ rfl).1, (Sts.boxCell hy 4 _ rfl).1, (Sts.boxCell hy 5 _ rfl).1, (Sts.boxCell hy 6 _ rfl).1, (Sts.boxCell hy 7 _ rfl).1, (Sts.boxCell hy 8 _ rfl).1, (Sts.boxCell hy 9 _ rfl).1, (Sts.boxCell hy 10 _ rfl).1⟩⟩) ?_
    apply ord_pure (ho := rfl)
    · go_simp
    · intro x hx; obtain ⟨hC, hP⟩ := hx; have k1 := hC.k1; have k2 := hC.k2; have p0 := hP.c0; have p1 := hP.c1; have p2 := hP.c2; have p3 := hP.c3; have p4 := hP.c4; have p5 := hP.c5; have p6 := hP.c6; have p7 := hP.c7; have p8 := hP.c8; have p9 := hP.c9; have p10 := hP.c10; clear hC hP; go_simp; rfl
    apply ord_norm
    · go_simp; rfl
    apply ord_eff (ho := rfl)
    · go_simp
    intro y hy
    refine eff_call (f := 54) (by go_simp; rfl) (cValid y p hname hdata (by omega) (hgb y hy)) ?_
    rintro e w2 ⟨rfl, hb⟩
    refine ⟨_, rfl, (fun y => SnkC y q s1 dv wv ∧ PduC y w.heap.size p), (fun y => Sts W (blkP w.heap.size (.cells #[.int .i64 p.kind, .int .i64 p.src, .int .i64 p.num, .int .i64 p.cls, .string p.name, .int .i64 p.size, .int .i64 p.off, .slice p.da p.data.length p.dc, .int .u32 (p.sum : Nat), .int .i64 p.code, .slice p.ga p.gaps.length p.gc] 45 (0, 0)) :: blkP q (.cells (s1.cells dv wv) 109 (0, 0)) :: rowP 5 1 dv s1.data.length (u8s s1.data) :: rowP 81 2 wv s1.got.length (Fil.rcells s1.got) :: l) y), hy.quiet HLB.out hb, (fun y hy => ⟨Sts.snkC hy.tail, ⟨(Sts.boxCell hy 0 _ rfl).1, (Sts.boxCell hy 1 _ rfl).1, (Sts.boxCell hy 2 _ rfl).1, (Sts.boxCell hy 3 _ rfl).1, (Sts.boxCell hy 4 _ rfl).1, (Sts.boxCell hy 5 _ rfl).1, (Sts.boxCell hy 6 _ rfl).1, (Sts.boxCell hy 7 _ rfl).1, (Sts.boxCell hy 8 _ rfl).1, (Sts.boxCell hy 9 _ rfl).1, (Sts.boxCell hy 10 _ rfl).1⟩⟩), (fun _ h => h), ?_⟩
    rw [hv]
    clear hb hy y
    apply ord_norm
    · go_simp; rfl
    iterate 2
      (apply ord_pure (ho := rfl)
       · go_simp
       · intro x hx; obtain ⟨hC, hP⟩ := hx; have k1 := hC.k1; have k2 := hC.k2; have p0 := hP.c0; have p1 := hP.c1; have p2 := hP.c2; have p3 := hP.c3; have p4 := hP.c4; have p5 := hP.c5; have p6 := hP.c6; have p7 := hP.c7; have p8 := hP.c8; have p9 := hP.c9; have p10 := hP.c10; clear hC hP; go_simp; rfl
       apply ord_norm
       · go_simp; rfl)
    iterate 7
      (apply ord_pure (ho := rfl)
       · go_simp
       · intro x hx; obtain ⟨hC, hP⟩ := hx; have k1 := hC.k1; have k2 := hC.k2; have p0 := hP.c0; have p1 := hP.c1; have p2 := hP.c2; have p3 := hP.c3; have p4 := hP.c4; have p5 := hP.c5; have p6 := hP.c6; have p7 := hP.c7; have p8 := hP.c8; have p9 := hP.c9; have p10 := hP.c10; clear hC hP; go_simp; rfl
       apply ord_norm
       · go_simp; rfl)
    iterate 2
      (apply ord_pure (ho := rfl)
       · go_simp
       · intro x hx; obtain ⟨hC, hP⟩ := hx; have k1 := hC.k1; have k2 := hC.k2; have p0 := hP.c0; have p1 := hP.c1; have p2 := hP.c2; have p3 := hP.c3; have p4 := hP.c4; have p5 := hP.c5; have p6 := hP.c6; have p7 := hP.c7; have p8 := hP.c8; have p9 := hP.c9; have p10 := hP.c10; clear hC hP; go_simp; rfl
       apply ord_norm
       · go_simp; rfl)
    iterate 2
      (apply ord_pure (ho := rfl)
       · go_simp
       · intro x hx; obtain ⟨hC, hP⟩ := hx; have k1 := hC.k1; have k2 := hC.k2; have p0 := hP.c0; have p1 := hP.c1; have p2 := hP.c2; have p3 := hP.c3; have p4 := hP.c4; have p5 := hP.c5; have p6 := hP.c6; have p7 := hP.c7; have p8 := hP.c8; have p9 := hP.c9; have p10 := hP.c10; clear hC hP; go_simp; rfl
       apply ord_norm
       · go_simp; rfl)
    apply ord_eff (ho := rfl)
    · go_simp
    intro y hy
    refine eff_call (f := 68) (by go_simp) (cForward y p.kind) ?_
    rintro e w2 ⟨rfl, rfl⟩
    refine ⟨_, rfl, (fun y => SnkC y q s1 dv wv ∧ PduC y w.heap.size p), (fun y => Sts W (blkP w.heap.size (.cells #[.int .i64 p.kind, .int .i64 p.src, .int .i64 p.num, .int .i64 p.cls, .string p.name, .int .i64 p.size, .int .i64 p.off, .slice p.da p.data.length p.dc, .int .u32 (p.sum : Nat), .int .i64 p.code, .slice p.ga p.gaps.length p.gc] 45 (0, 0)) :: blkP q (.cells (s1.cells dv wv) 109 (0, 0)) :: rowP 5 1 dv s1.data.length (u8s s1.data) :: rowP 81 2 wv s1.got.length (Fil.rcells s1.got) :: l) y), hy, (fun y hy => ⟨Sts.snkC hy.tail, ⟨(Sts.boxCell hy 0 _ rfl).1, (Sts.boxCell hy 1 _ rfl).1, (Sts.boxCell hy 2 _ rfl).1, (Sts.boxCell hy 3 _ rfl).1, (Sts.boxCell hy 4 _ rfl).1, (Sts.boxCell hy 5 _ rfl).1, (Sts.boxCell hy 6 _ rfl).1, (Sts.boxCell hy 7 _ rfl).1, (Sts.boxCell hy 8 _ rfl).1, (Sts.boxCell hy 9 _ rfl).1, (Sts.boxCell hy 10 _ rfl).1⟩⟩), (fun _ h => h), ?_⟩
    rw [hf]
    clear hy y
    apply ord_norm
    · go_simp; rfl
    iterate 2
      (apply ord_pure (ho := rfl)
       · go_simp
       · intro x hx; obtain ⟨hC, hP⟩ := hx; have k1 := hC.k1; have k2 := hC.k2; have p0 := hP.c0; have p1 := hP.c1; have p2 := hP.c2; have p3 := hP.c3; have p4 := hP.c4; have p5 := hP.c5; have p6 := hP.c6; have p7 := hP.c7; have p8 := hP.c8; have p9 := hP.c9; have p10 := hP.c10; clear hC hP; go_simp; rfl
       apply ord_norm
       · go_simp; rfl)
    refine ord_nil fun z hz => ?_
    have k3 := (Sts.snkC hz.tail).k3
    have p0 := (Sts.boxCell hz 0 _ rfl).1
    have p3 := (Sts.boxCell hz 3 _ rfl).1
    have HN : Hid (∀ n, Sts W (snkP q s1 :: blkP w.heap.size (.cells #[.int .i64 p.kind, .int .i64 p.src, .int .i64 p.num, .int .i64 p.cls, .string p.name, .int .i64 p.size, .int .i64 p.off, .slice p.da p.data.length p.dc, .int .u32 (p.sum : Nat), .int .i64 p.code, .slice p.ga p.gaps.length p.gc] 45 (0, 0)) :: l) (z.drewN n)) := hid fun n => Sts.shutSnk ((hz.quiet HLB.out (below_drewN (Below.refl _ _) n)).perm (List.perm_middle (l₁ := [_, _, _]) (l₂ := l)).symm)
    have HBX : Hid (∀ n, Sts W (blkP w.heap.size (.cells #[.int .i64 p.kind, .int .i64 p.src, .int .i64 p.num, .int .i64 p.cls, .string p.name, .int .i64 p.size, .int .i64 p.off, .slice p.da p.data.length p.dc, .int .u32 (p.sum : Nat), .int .i64 p.code, .slice p.ga p.gaps.length p.gc] 45 (0, 0)) :: snkP q s1 :: l) (z.drewN n)) := hid fun n => (HN.out n).swap
    clear hz HB
    go_wp2_with fail
    go_quiet (fail)
    go_wp2_with (first | (refine wpList_ld2 rfl (.tmp 4) 45 rfl rfl (.agg p.cells) (ldPdu rfl (HBX.out _)) ?_) | (go_at_call 83; refine (HRC.out _ (HN.out _)).mono ?_; rintro e w5 ⟨rfl, hw⟩; have HF := hid hw; clear hw))
    go_ret
    exact ⟨rfl, HF.out.swap.tail⟩
end
theorem cTakeW {W w : World} {l : List HProp} (hl : ∀ B ∈ l, Stable B) (q : Nat) (s : Fil.Snk) (hs : Sts W (snkP q s :: l) w) (now : Int) (p : Fil.Pdu) (hname : p.name.size ≤ 1000000) (hdata : p.data.length < 1000000000) (hgl : p.gaps.length < 1000) (hg : ∀ A y, Sts W (A :: l) y → RdR y (.slice p.ga p.gaps.length p.gc) p.gaps) (hd : RdP W l p) (hdn0 : p.kind = 3 → s.don = false) (hft : s.Fit) (h9 : s.got.length < 800000) (hf2 : ((s.adv now).recV p).1.Fit) :
    Calls Try.prog 36 #[.pointer (some ⟨q, 0, none⟩), .agg p.cells, .int .i64 now] w fun e w' => e = .returned (.int .i64 (s.takeV p now).2) ∧ Sts W (snkP q (s.takeV p now).1 :: l) w' := by
  have hft1 : (s.adv now).Fit := by unfold Fil.Snk.adv; split <;> exact ⟨hft.hn, hft.hb, hft.hd, hft.h8⟩
  have h91 : (s.adv now).got.length < 800000 := by unfold Fil.Snk.adv; split <;> exact h9
  have hdn1 : p.kind = 3 → (s.adv now).don = false := fun hk => by unfold Fil.Snk.adv; split <;> exact hdn0 hk
  unfold Fil.Snk.takeV
  cases hv : p.validB with
  | false => exact cTakeKBad hl q s _ hs now rfl p hname hdata hgl hg hv
  | true =>
    rw [if_neg (by simp)]
    cases hi : ((p.src == (s.adv now).src) && (p.num == (s.adv now).num)) with
    | false => exact cTakeKId hl q s _ hs now rfl p hname hdata hgl hg hv hi
    | true =>
      rw [if_neg (by simp)]
      simp only [Bool.and_eq_true] at hi
      cases hf : Fil.fwdB p.kind with
      | false => exact cTakeKFwd hl q s _ hs now rfl p hname hdata hgl hg hv hi.1 hi.2 hf
      | true =>
        rw [if_neg (by simp)]
        have hpc : p.kind = 2 → 0 ≤ p.off ∧ 0 < p.data.length ∧ p.off + p.data.length ≤ 100000 := fun hk => by
          unfold Fil.Pdu.validB at hv
          simp only [Bool.and_eq_true] at hv
          have hkb := hv.2
          unfold Fil.Pdu.kindB at hkb
          rw [if_neg (by omega), if_pos hk] at hkb
          unfold Fil.withinB at hkb
          simp only [Bool.and_eq_true, decide_eq_true_eq] at hkb
          omega
        cases hc : (((p.kind == 1) || (p.kind == 3)) && (p.cls != (s.adv now).cls)) with
        | true =>
          rw [if_pos rfl]
          refine cTakeKCls hl q s _ hs now rfl p hname hdata hgl hg hv hi.1 hi.2 hf ?_
          cases a : (p.kind == 1) <;> cases b : (p.kind == 3) <;> cases c : (p.cls != (s.adv now).cls) <;> simp_all
        | false =>
          rw [if_neg (by simp)]
          have hc2 : ((p.kind == 1) = false ∧ (p.kind == 3) = false) ∨ ((p.kind == 1) = true ∧ (p.cls != (s.adv now).cls) = false) ∨ ((p.kind == 1) = false ∧ (p.kind == 3) = true ∧ (p.cls != (s.adv now).cls) = false) := by
            cases a : (p.kind == 1) <;> cases b : (p.kind == 3) <;> cases c : (p.cls != (s.adv now).cls) <;> simp_all
          unfold Fil.Snk.endV
          generalize hr : (s.adv now).recV p = r at *
          obtain ⟨s2, n⟩ := r
          simp only [] at hf2 ⊢
          by_cases hn : n = 0
          · rw [if_pos hn]; exact cTakeKOk hl q s _ hs now rfl p hname hdata hgl hg hv hi.1 hi.2 hf hc2 hdn1 hft1 h91 hd hpc s2 n hr hn hf2
          · rw [if_neg hn]; exact cTakeKNo hl q s _ hs now rfl p hname hdata hgl hg hv hi.1 hi.2 hf hc2 hdn1 hft1 h91 hd hpc s2 n hr (by simpa using hn)
end Go.Proofs.Ytfjadhkhmhnccaa
