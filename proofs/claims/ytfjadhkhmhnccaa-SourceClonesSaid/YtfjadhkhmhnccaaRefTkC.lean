/- The specification's Take, requests. -/
import Derived.Test.YtfjadhkhmhnccaaRefTkD
set_option linter.unusedVariables false
set_option linter.unusedSimpArgs false
namespace Go.Proofs.Ytfjadhkhmhnccaa
open Go.RowKit Go.Proofs.Num
section
variable {W w : World} {l : List HProp} (hl : ∀ B ∈ l, Stable B) (zh : Value × List Rng.R) (q : Nat) (s s1 : Fil.Src) (da : Option Addr) (dc : Nat) (hs : Sts W (refP zh q s (.slice da s.data.length dc) :: l) w) (now : Int) (hp1 : s.pass now = s1) (hz0 : (s.phase + 1 == 0) = false) (hdl : s.data.length = s1.data.length) (p : Fil.Pdu) (hname : p.name.size ≤ 1000000) (hdata : p.data.length < 1000000000) (hgl : p.gaps.length < 1000) (hg : ∀ A y, Sts W (A :: l) y → RdR y (.slice p.ga p.gaps.length p.gc) p.gaps)
include hl hs hp1 hz0 hdl hname hdata hgl hg
set_option maxRecDepth 100000 in
set_option maxHeartbeats 4000000 in
theorem cRTakeNakBadA (hv : p.validB = true) (i1 : (p.src == s1.src) = true) (i2 : (p.num == s1.num) = true) (hk : p.kind = 4) (hc : (s1.cls == 1) = false) (c1 : s1.phase = 0) (hbad : ∃ r ∈ p.gaps, (s1.data.length : Int) < r.2) : Calls Try.prog 72 #[.pointer (some ⟨q, 0, none⟩), .agg p.cells, .int .i64 now] w fun e w' => e = .returned (.int .i64 4) ∧ Sts W (refP zh q (s1) (.slice da s1.data.length dc) :: l) w' := by
  have HBAD := hid hbad
  clear hbad
  have HK := hid hk
  clear hk
  have HPC : p.cells = #[.int .i64 p.kind, .int .i64 p.src, .int .i64 p.num, .int .i64 p.cls, .string p.name, .int .i64 p.size, .int .i64 p.off, .slice p.da p.data.length p.dc, .int .u32 (p.sum : Nat), .int .i64 p.code, .slice p.ga p.gaps.length p.gc] := rfl
  rw [HPC]
  clear HPC
  rw [hdl] at hs
  have hls : ∀ B ∈ refP zh q s (.slice da s1.data.length dc) :: l, Stable B := stabC (refP_stable _ _ _ _) hl
  have hz : Sts W (blkP w.heap.size (.cells #[.int .i64 p.kind, .int .i64 p.src, .int .i64 p.num, .int .i64 p.cls, .string p.name, .int .i64 p.size, .int .i64 p.off, .slice p.da p.data.length p.dc, .int .u32 (p.sum : Nat), .int .i64 p.code, .slice p.ga p.gaps.length p.gc] 45 (0, 0)) :: refP zh q s (.slice da s1.data.length dc) :: l) (w.alloc (.cells #[.int .i64 p.kind, .int .i64 p.src, .int .i64 p.num, .int .i64 p.cls, .string p.name, .int .i64 p.size, .int .i64 p.off, .slice p.da p.data.length p.dc, .int .u32 (p.sum : Nat), .int .i64 p.code, .slice p.ga p.gaps.length p.gc] 45)) := hs.alloc hls (.cells #[.int .i64 p.kind, .int .i64 p.src, .int .i64 p.num, .int .i64 p.cls, .string p.name, .int .i64 p.size, .int .i64 p.off, .slice p.da p.data.length p.dc, .int .u32 (p.sum : Nat), .int .i64 p.code, .slice p.ga p.gaps.length p.gc] 45)
  have hbl : ∀ B ∈ blkP w.heap.size (.cells #[.int .i64 p.kind, .int .i64 p.src, .int .i64 p.num, .int .i64 p.cls, .string p.name, .int .i64 p.size, .int .i64 p.off, .slice p.da p.data.length p.dc, .int .u32 (p.sum : Nat), .int .i64 p.code, .slice p.ga p.gaps.length p.gc] 45 (0, 0)) :: l, Stable B := stabC (blkP_stable _ _) hl
  have hP := cClock hbl zh q s (.slice da s1.data.length dc) hz.swap now
  rw [hp1] at hP
  have HP := hid hP
  obtain ⟨wv0, h0⟩ := Sts.openRef hz.swap
  have k8 : (w.alloc (.cells #[.int .i64 p.kind, .int .i64 p.src, .int .i64 p.num, .int .i64 p.cls, .string p.name, .int .i64 p.size, .int .i64 p.off, .slice p.da p.data.length p.dc, .int .u32 (p.sum : Nat), .int .i64 p.code, .slice p.ga p.gaps.length p.gc] 45)).cell? ⟨q, 8, none⟩ = some (.int .i64 (s.phase + 1)) := (Sts.refC h0).k8
  have HL := hid hl
  have HBL := hid hbl
  have HG := hid hg
  clear hP h0 hz hs hl hbl hp1 hls hg hdl
  go_enter Try.func72, Try.ntmps72
  go_wp2_with (first | (go_at_call 109; refine HP.out.mono ?_; rintro e w1 ⟨rfl, h1⟩; obtain ⟨wv, h2⟩ := Sts.openRef h1; have HB := hid h2.third; clear h1 h2))
  have HLB : Hid (∀ B ∈ blkP w.heap.size (.cells #[.int .i64 p.kind, .int .i64 p.src, .int .i64 p.num, .int .i64 p.cls, .string p.name, .int .i64 p.size, .int .i64 p.off, .slice p.da p.data.length p.dc, .int .u32 (p.sum : Nat), .int .i64 p.code, .slice p.ga p.gaps.length p.gc] 45 (0, 0)) :: blkP q (.cells ((s1).rcs (.slice da s1.data.length dc) wv) 38 (0, 0)) :: ownW zh wv (s1).wanted :: l, Stable B) := hid (stabC (blkP_stable _ _) (stabC (blkP_stable _ _) (stabC (ownW_stable _ _ _) HL.out)))
  have hgb : ∀ y, Sts W (blkP w.heap.size (.cells #[.int .i64 p.kind, .int .i64 p.src, .int .i64 p.num, .int .i64 p.cls, .string p.name, .int .i64 p.size, .int .i64 p.off, .slice p.da p.data.length p.dc, .int .u32 (p.sum : Nat), .int .i64 p.code, .slice p.ga p.gaps.length p.gc] 45 (0, 0)) :: blkP q (.cells ((s1).rcs (.slice da s1.data.length dc) wv) 38 (0, 0)) :: ownW zh wv (s1).wanted :: l) y → RdR y (.slice p.ga p.gaps.length p.gc) p.gaps := fun y hy => HG.out _ y (Sts.shutRef hy.tail)
  refine wp_region_ord (.pure 0 (.eff 1 (.pure 2 (.pure 3 (.pure 4 (.pure 5 (.pure 6 (.pure 7 (.pure 8 (.pure 9 (.pure 10 (.pure 11 (.pure 12 (.pure 13 (.pure 14 (.pure 15 (.pure 16 (.pure 17 (.pure 18 (.pure 19 (.pure 20 (.pure 21 (.pure 22 (.pure 23 (.pure 24 (.pure 25 (.pure 26 .nil))))))))))))))))))))))))))) (fun y => RefC y q s1 (.slice da s1.data.length dc) wv ∧ PduC y w.heap.size p) (fun y => Sts W (blkP w.heap.size (.cells #[.int .i64 p.kind, .int .i64 p.src, .int .i64 p.num, .int .i64 p.cls, .string p.name, .int .i64 p.size, .int .i64 p.off, .slice p.da p.data.length p.dc, .int .u32 (p.sum : Nat), .int .i64 p.code, .slice p.ga p.gaps.length p.gc] 45 (0, 0)) :: blkP q (.cells ((s1).rcs (.slice da s1.data.length dc) wv) 38 (0, 0)) :: ownW zh wv (s1).wanted :: l) y) (by kernel_rfl) (by kernel_rfl) (HB.out.drew HLB.out) (fun y hy => ⟨Sts.refC hy.tail, ⟨(Sts.boxCell hy 0 _ rfl).1, (Sts.boxCell hy 1 _ rfl).1, (Sts.boxCell hy 2 _ rfl).1, (Sts.boxCell hy 3 _ rfl).1, (Sts.boxCell hy 4 _ rfl).1, (Sts.boxCell hy 5 _ rfl).1, (Sts.boxCell hy 6 _ rfl).1, (Sts.boxCell hy 7 _ rfl).1, (Sts.boxCell hy 8 _ rfl).1, (Sts.boxCell hy 9 _ rfl).1, (Sts.boxCell hy 10 _ rfl).1⟩⟩) ?_
  apply ord_pure (ho := rfl)
  · go_simp
  · intro x hx; obtain ⟨hC, hP⟩ := hx; have k0 := hC.k0; have k1 := hC.k1; have p0 := hP.c0; have p1 := hP.c1; have p2 := hP.c2; have p3 := hP.c3; have p4 := hP.c4; have p5 := hP.c5; have p6 := hP.c6; have p7 := hP.c7; have p8 := hP.c8; have p9 := hP.c9; have p10 := hP.c10; clear hC hP; go_simp; rfl
  apply ord_norm
  · go_simp; rfl
  apply ord_eff (ho := rfl)
  · go_simp
  intro y hy
  refine eff_call (f := 57) (by go_simp; rfl) (cRefValid y p hname hdata (by omega) (hgb y hy)) ?_
  rintro e w2 ⟨rfl, hb⟩
  refine ⟨_, rfl, (fun y => RefC y q s1 (.slice da s1.data.length dc) wv ∧ PduC y w.heap.size p), (fun y => Sts W (blkP w.heap.size (.cells #[.int .i64 p.kind, .int .i64 p.src, .int .i64 p.num, .int .i64 p.cls, .string p.name, .int .i64 p.size, .int .i64 p.off, .slice p.da p.data.length p.dc, .int .u32 (p.sum : Nat), .int .i64 p.code, .slice p.ga p.gaps.length p.gc] 45 (0, 0)) :: blkP q (.cells ((s1).rcs (.slice da s1.data.length dc) wv) 38 (0, 0)) :: ownW zh wv (s1).wanted :: l) y), hy.quiet HLB.out hb, (fun y hy => ⟨Sts.refC hy.tail, ⟨(Sts.boxCell hy 0 _ rfl).1, (Sts.boxCell hy 1 _ rfl).1, (Sts.boxCell hy 2 _ rfl).1, (Sts.boxCell hy 3 _ rfl).1, (Sts.boxCell hy 4 _ rfl).1, (Sts.boxCell hy 5 _ rfl).1, (Sts.boxCell hy 6 _ rfl).1, (Sts.boxCell hy 7 _ rfl).1, (Sts.boxCell hy 8 _ rfl).1, (Sts.boxCell hy 9 _ rfl).1, (Sts.boxCell hy 10 _ rfl).1⟩⟩), (fun _ h => h), ?_⟩
  rw [hv]
  clear hb hy y
  apply ord_norm
  · go_simp; rfl
  iterate 2
    (apply ord_pure (ho := rfl)
     · go_simp
     · intro x hx; obtain ⟨hC, hP⟩ := hx; have k0 := hC.k0; have k1 := hC.k1; have p0 := hP.c0; have p1 := hP.c1; have p2 := hP.c2; have p3 := hP.c3; have p4 := hP.c4; have p5 := hP.c5; have p6 := hP.c6; have p7 := hP.c7; have p8 := hP.c8; have p9 := hP.c9; have p10 := hP.c10; rw [HK.out] at p0; clear hC hP; go_simp; rfl
     apply ord_norm
     · go_simp; rfl)
  iterate 9
    (apply ord_pure (ho := rfl)
     · go_simp
     · intro x hx; obtain ⟨hC, hP⟩ := hx; have k0 := hC.k0; have k1 := hC.k1; have p0 := hP.c0; have p1 := hP.c1; have p2 := hP.c2; have p3 := hP.c3; have p4 := hP.c4; have p5 := hP.c5; have p6 := hP.c6; have p7 := hP.c7; have p8 := hP.c8; have p9 := hP.c9; have p10 := hP.c10; rw [HK.out] at p0; clear hC hP; go_simp; rfl
     apply ord_norm
     · go_simp; rfl)
  iterate 4
    (apply ord_pure (ho := rfl)
     · go_simp
     · intro x hx; obtain ⟨hC, hP⟩ := hx; have k0 := hC.k0; have k1 := hC.k1; have p0 := hP.c0; have p1 := hP.c1; have p2 := hP.c2; have p3 := hP.c3; have p4 := hP.c4; have p5 := hP.c5; have p6 := hP.c6; have p7 := hP.c7; have p8 := hP.c8; have p9 := hP.c9; have p10 := hP.c10; rw [HK.out] at p0; clear hC hP; go_simp; rfl
     apply ord_norm
     · go_simp; rfl)
  iterate 3
    (apply ord_skip (ho := rfl)
     · go_simp
       try (intro hu; cases hu)
     apply ord_norm
     · go_simp; rfl)
  iterate 2
    (apply ord_pure (ho := rfl)
     · go_simp
     · intro x hx; obtain ⟨hC, hP⟩ := hx; have k0 := hC.k0; have k1 := hC.k1; have p0 := hP.c0; have p1 := hP.c1; have p2 := hP.c2; have p3 := hP.c3; have p4 := hP.c4; have p5 := hP.c5; have p6 := hP.c6; have p7 := hP.c7; have p8 := hP.c8; have p9 := hP.c9; have p10 := hP.c10; rw [HK.out] at p0; clear hC hP; go_simp; rfl
     apply ord_norm
     · go_simp; rfl)
  iterate 3
    (apply ord_skip (ho := rfl)
     · go_simp
       try (intro hu; cases hu)
     apply ord_norm
     · go_simp; rfl)
  iterate 2
    (apply ord_pure (ho := rfl)
     · go_simp
     · intro x hx; obtain ⟨hC, hP⟩ := hx; have k0 := hC.k0; have k1 := hC.k1; have p0 := hP.c0; have p1 := hP.c1; have p2 := hP.c2; have p3 := hP.c3; have p4 := hP.c4; have p5 := hP.c5; have p6 := hP.c6; have p7 := hP.c7; have p8 := hP.c8; have p9 := hP.c9; have p10 := hP.c10; rw [HK.out] at p0; clear hC hP; go_simp; rfl
     apply ord_norm
     · go_simp; rfl)
  refine ord_nil fun z hz => ?_
  have hC := Sts.refC hz.tail
  have k2 := hC.k2
  have k8 := hC.k8
  have k4 := hC.k4
  clear hC
  have p0 := (Sts.boxCell hz 0 _ rfl).1
  have p9 := (Sts.boxCell hz 9 _ rfl).1
  have p10 := (Sts.boxCell hz 10 _ rfl).1
  rw [HK.out] at p0
  rw [c1] at k8
  clear c1
  have HZ := hid hz
  clear hz HB p9
  go_wp2_with fail
  go_loopw [8] (fun i wr => ∃ k : Nat, k ≤ p.gaps.length ∧ i = .int .i64 k ∧ (∀ r ∈ p.gaps.take k, r.2 ≤ (s1.data.length : Int)) ∧ Sts W (blkP w.heap.size (.cells #[.int .i64 p.kind, .int .i64 p.src, .int .i64 p.num, .int .i64 p.cls, .string p.name, .int .i64 p.size, .int .i64 p.off, .slice p.da p.data.length p.dc, .int .u32 (p.sum : Nat), .int .i64 p.code, .slice p.ga p.gaps.length p.gc] 45 (0, 0)) :: blkP q (.cells ((s1).rcs (.slice da s1.data.length dc) wv) 38 (0, 0)) :: ownW zh wv (s1).wanted :: l) wr) (fun i _ => p.gaps.length - (intOf i).toNat)
  case atStart => exact ⟨0, by omega, rfl, by simp, HZ.out⟩
  case round =>
    obtain ⟨k, hk, rfl, hpre, hS⟩ := hrel
    have HPR := hid hpre
    have HS1 := hid hS
    have hC := Sts.refC hS.tail
    have k4 := hC.k4
    clear hC
    have p10 := (Sts.boxCell hS 10 _ rfl).1
    clear hpre HZ
    by_cases hlt : k < p.gaps.length
    · obtain ⟨a', c', e', -, hx⟩ := hgb _ hS
      injection e' with e1 e2 e3
      obtain ⟨b, off, hab, hb, c0, c1⟩ := hx k hlt
      rw [← e1] at hab
      clear e1 e2 e3 hx
      have HT : Hid (p.gaps.take (k + 1) = p.gaps.take k ++ [p.gaps[k]]) := hid (by rw [List.take_add_one, List.getElem?_eq_getElem hlt]; rfl)
      generalize p.gaps[k] = x at *
      obtain ⟨f, t⟩ := x
      simp only [] at c0 c1
      rw [hab] at p10
      have HQ := hid (fun n => HS1.out.quiet HLB.out (below_drewN (Below.refl _ _) n))
      clear hS
      cases hd : decide (t > (s1.data.length : Int)) with
      | true =>
        go_wp2_with fail
        go_quiet (fail)
        go_wp2_with fail
        go_ret
        exact ⟨rfl, Sts.shutRef (s := s1) (wv := wv) (HQ.out _).tail⟩
      | false =>
        go_wp2_with fail
        go_quiet (fail)
        go_wp2_with fail
        go_roundw
        case rel =>
          refine ⟨k + 1, by omega, by go_num, ?_, HQ.out _⟩
          intro r hr
          rw [HT.out, List.mem_append] at hr
          rcases hr with hr | hr
          · exact HPR.out r hr
          · simp at hr; subst hr; simpa using hd
        case measure => simp [intOf]; omega
    · obtain rfl : k = p.gaps.length := by omega
      have hpre := HPR.out
      rw [List.take_length] at hpre
      obtain ⟨r, hr, hrr⟩ := HBAD.out
      have := hpre r hr
      omega
set_option maxRecDepth 100000 in
set_option maxHeartbeats 4000000 in
theorem cRTakeNakBadB (hv : p.validB = true) (i1 : (p.src == s1.src) = true) (i2 : (p.num == s1.num) = true) (hk : p.kind = 4) (hc : (s1.cls == 1) = false) (c1 : s1.phase = 1) (hbad : ∃ r ∈ p.gaps, (s1.data.length : Int) < r.2) : Calls Try.prog 72 #[.pointer (some ⟨q, 0, none⟩), .agg p.cells, .int .i64 now] w fun e w' => e = .returned (.int .i64 4) ∧ Sts W (refP zh q (s1) (.slice da s1.data.length dc) :: l) w' := by
  have HBAD := hid hbad
  clear hbad
  have HK := hid hk
  clear hk
  have HPC : p.cells = #[.int .i64 p.kind, .int .i64 p.src, .int .i64 p.num, .int .i64 p.cls, .string p.name, .int .i64 p.size, .int .i64 p.off, .slice p.da p.data.length p.dc, .int .u32 (p.sum : Nat), .int .i64 p.code, .slice p.ga p.gaps.length p.gc] := rfl
  rw [HPC]
  clear HPC
  rw [hdl] at hs
  have hls : ∀ B ∈ refP zh q s (.slice da s1.data.length dc) :: l, Stable B := stabC (refP_stable _ _ _ _) hl
  have hz : Sts W (blkP w.heap.size (.cells #[.int .i64 p.kind, .int .i64 p.src, .int .i64 p.num, .int .i64 p.cls, .string p.name, .int .i64 p.size, .int .i64 p.off, .slice p.da p.data.length p.dc, .int .u32 (p.sum : Nat), .int .i64 p.code, .slice p.ga p.gaps.length p.gc] 45 (0, 0)) :: refP zh q s (.slice da s1.data.length dc) :: l) (w.alloc (.cells #[.int .i64 p.kind, .int .i64 p.src, .int .i64 p.num, .int .i64 p.cls, .string p.name, .int .i64 p.size, .int .i64 p.off, .slice p.da p.data.length p.dc, .int .u32 (p.sum : Nat), .int .i64 p.code, .slice p.ga p.gaps.length p.gc] 45)) := hs.alloc hls (.cells #[.int .i64 p.kind, .int .i64 p.src, .int .i64 p.num, .int .i64 p.cls, .string p.name, .int .i64 p.size, .int .i64 p.off, .slice p.da p.data.length p.dc, .int .u32 (p.sum : Nat), .int .i64 p.code, .slice p.ga p.gaps.length p.gc] 45)
  have hbl : ∀ B ∈ blkP w.heap.size (.cells #[.int .i64 p.kind, .int .i64 p.src, .int .i64 p.num, .int .i64 p.cls, .string p.name, .int .i64 p.size, .int .i64 p.off, .slice p.da p.data.length p.dc, .int .u32 (p.sum : Nat), .int .i64 p.code, .slice p.ga p.gaps.length p.gc] 45 (0, 0)) :: l, Stable B := stabC (blkP_stable _ _) hl
  have hP := cClock hbl zh q s (.slice da s1.data.length dc) hz.swap now
  rw [hp1] at hP
  have HP := hid hP
  obtain ⟨wv0, h0⟩ := Sts.openRef hz.swap
  have k8 : (w.alloc (.cells #[.int .i64 p.kind, .int .i64 p.src, .int .i64 p.num, .int .i64 p.cls, .string p.name, .int .i64 p.size, .int .i64 p.off, .slice p.da p.data.length p.dc, .int .u32 (p.sum : Nat), .int .i64 p.code, .slice p.ga p.gaps.length p.gc] 45)).cell? ⟨q, 8, none⟩ = some (.int .i64 (s.phase + 1)) := (Sts.refC h0).k8
  have HL := hid hl
  have HBL := hid hbl
  have HG := hid hg
  clear hP h0 hz hs hl hbl hp1 hls hg hdl
  go_enter Try.func72, Try.ntmps72
  go_wp2_with (first | (go_at_call 109; refine HP.out.mono ?_; rintro e w1 ⟨rfl, h1⟩; obtain ⟨wv, h2⟩ := Sts.openRef h1; have HB := hid h2.third; clear h1 h2))
  have HLB : Hid (∀ B ∈ blkP w.heap.size (.cells #[.int .i64 p.kind, .int .i64 p.src, .int .i64 p.num, .int .i64 p.cls, .string p.name, .int .i64 p.size, .int .i64 p.off, .slice p.da p.data.length p.dc, .int .u32 (p.sum : Nat), .int .i64 p.code, .slice p.ga p.gaps.length p.gc] 45 (0, 0)) :: blkP q (.cells ((s1).rcs (.slice da s1.data.length dc) wv) 38 (0, 0)) :: ownW zh wv (s1).wanted :: l, Stable B) := hid (stabC (blkP_stable _ _) (stabC (blkP_stable _ _) (stabC (ownW_stable _ _ _) HL.out)))
  have hgb : ∀ y, Sts W (blkP w.heap.size (.cells #[.int .i64 p.kind, .int .i64 p.src, .int .i64 p.num, .int .i64 p.cls, .string p.name, .int .i64 p.size, .int .i64 p.off, .slice p.da p.data.length p.dc, .int .u32 (p.sum : Nat), .int .i64 p.code, .slice p.ga p.gaps.length p.gc] 45 (0, 0)) :: blkP q (.cells ((s1).rcs (.slice da s1.data.length dc) wv) 38 (0, 0)) :: ownW zh wv (s1).wanted :: l) y → RdR y (.slice p.ga p.gaps.length p.gc) p.gaps := fun y hy => HG.out _ y (Sts.shutRef hy.tail)
  refine wp_region_ord (.pure 0 (.eff 1 (.pure 2 (.pure 3 (.pure 4 (.pure 5 (.pure 6 (.pure 7 (.pure 8 (.pure 9 (.pure 10 (.pure 11 (.pure 12 (.pure 13 (.pure 14 (.pure 15 (.pure 16 (.pure 17 (.pure 18 (.pure 19 (.pure 20 (.pure 21 (.pure 22 (.pure 23 (.pure 24 (.pure 25 (.pure 26 .nil))))))))))))))))))))))))))) (fun y => RefC y q s1 (.slice da s1.data.length dc) wv ∧ PduC y w.heap.size p) (fun y => Sts W (blkP w.heap.size (.cells #[.int .i64 p.kind, .int .i64 p.src, .int .i64 p.num, .int .i64 p.cls, .string p.name, .int .i64 p.size, .int .i64 p.off, .slice p.da p.data.length p.dc, .int .u32 (p.sum : Nat), .int .i64 p.code, .slice p.ga p.gaps.length p.gc] 45 (0, 0)) :: blkP q (.cells ((s1).rcs (.slice da s1.data.length dc) wv) 38 (0, 0)) :: ownW zh wv (s1).wanted :: l) y) (by kernel_rfl) (by kernel_rfl) (HB.out.drew HLB.out) (fun y hy => ⟨Sts.refC hy.tail, ⟨(Sts.boxCell hy 0 _ rfl).1, (Sts.boxCell hy 1 _ rfl).1, (Sts.boxCell hy 2 _ rfl).1, (Sts.boxCell hy 3 _ rfl).1, (Sts.boxCell hy 4 _ rfl).1, (Sts.boxCell hy 5 _ rfl).1, (Sts.boxCell hy 6 _ rfl).1, (Sts.boxCell hy 7 _ rfl).1, (Sts.boxCell hy 8 _ rfl).1, (Sts.boxCell hy 9 _ rfl).1, (Sts.boxCell hy 10 _ rfl).1⟩⟩) ?_
  apply ord_pure (ho := rfl)
  · go_simp
  · intro x hx; obtain ⟨hC, hP⟩ := hx; have k0 := hC.k0; have k1 := hC.k1; have p0 := hP.c0; have p1 := hP.c1; have p2 := hP.c2; have p3 := hP.c3; have p4 := hP.c4; have p5 := hP.c5; have p6 := hP.c6; have p7 := hP.c7; have p8 := hP.c8; have p9 := hP.c9; have p10 := hP.c10; clear hC hP; go_simp; rfl
  apply ord_norm
  · go_simp; rfl
  apply ord_eff (ho := rfl)
  · go_simp
  intro y hy
  refine eff_call (f := 57) (by go_simp; rfl) (cRefValid y p hname hdata (by omega) (hgb y hy)) ?_
  rintro e w2 ⟨rfl, hb⟩
  refine ⟨_, rfl, (fun y => RefC y q s1 (.slice da s1.data.length dc) wv ∧ PduC y w.heap.size p), (fun y => Sts W (blkP w.heap.size (.cells #[.int .i64 p.kind, .int .i64 p.src, .int .i64 p.num, .int .i64 p.cls, .string p.name, .int .i64 p.size, .int .i64 p.off, .slice p.da p.data.length p.dc, .int .u32 (p.sum : Nat), .int .i64 p.code, .slice p.ga p.gaps.length p.gc] 45 (0, 0)) :: blkP q (.cells ((s1).rcs (.slice da s1.data.length dc) wv) 38 (0, 0)) :: ownW zh wv (s1).wanted :: l) y), hy.quiet HLB.out hb, (fun y hy => ⟨Sts.refC hy.tail, ⟨(Sts.boxCell hy 0 _ rfl).1, (Sts.boxCell hy 1 _ rfl).1, (Sts.boxCell hy 2 _ rfl).1, (Sts.boxCell hy 3 _ rfl).1, (Sts.boxCell hy 4 _ rfl).1, (Sts.boxCell hy 5 _ rfl).1, (Sts.boxCell hy 6 _ rfl).1, (Sts.boxCell hy 7 _ rfl).1, (Sts.boxCell hy 8 _ rfl).1, (Sts.boxCell hy 9 _ rfl).1, (Sts.boxCell hy 10 _ rfl).1⟩⟩), (fun _ h => h), ?_⟩
  rw [hv]
  clear hb hy y
  apply ord_norm
  · go_simp; rfl
  iterate 2
    (apply ord_pure (ho := rfl)
     · go_simp
     · intro x hx; obtain ⟨hC, hP⟩ := hx; have k0 := hC.k0; have k1 := hC.k1; have p0 := hP.c0; have p1 := hP.c1; have p2 := hP.c2; have p3 := hP.c3; have p4 := hP.c4; have p5 := hP.c5; have p6 := hP.c6; have p7 := hP.c7; have p8 := hP.c8; have p9 := hP.c9; have p10 := hP.c10; rw [HK.out] at p0; clear hC hP; go_simp; rfl
     apply ord_norm
     · go_simp; rfl)
  iterate 9
    (apply ord_pure (ho := rfl)
     · go_simp
     · intro x hx; obtain ⟨hC, hP⟩ := hx; have k0 := hC.k0; have k1 := hC.k1; have p0 := hP.c0; have p1 := hP.c1; have p2 := hP.c2; have p3 := hP.c3; have p4 := hP.c4; have p5 := hP.c5; have p6 := hP.c6; have p7 := hP.c7; have p8 := hP.c8; have p9 := hP.c9; have p10 := hP.c10; rw [HK.out] at p0; clear hC hP; go_simp; rfl
     apply ord_norm
     · go_simp; rfl)
  iterate 4
    (apply ord_pure (ho := rfl)
     · go_simp
     · intro x hx; obtain ⟨hC, hP⟩ := hx; have k0 := hC.k0; have k1 := hC.k1; have p0 := hP.c0; have p1 := hP.c1; have p2 := hP.c2; have p3 := hP.c3; have p4 := hP.c4; have p5 := hP.c5; have p6 := hP.c6; have p7 := hP.c7; have p8 := hP.c8; have p9 := hP.c9; have p10 := hP.c10; rw [HK.out] at p0; clear hC hP; go_simp; rfl
     apply ord_norm
     · go_simp; rfl)
  iterate 3
    (apply ord_skip (ho := rfl)
     · go_simp
       try (intro hu; cases hu)
     apply ord_norm
     · go_simp; rfl)
  iterate 2
    (apply ord_pure (ho := rfl)
     · go_simp
     · intro x hx; obtain ⟨hC, hP⟩ := hx; have k0 := hC.k0; have k1 := hC.k1; have p0 := hP.c0; have p1 := hP.c1; have p2 := hP.c2; have p3 := hP.c3; have p4 := hP.c4; have p5 := hP.c5; have p6 := hP.c6; have p7 := hP.c7; have p8 := hP.c8; have p9 := hP.c9; have p10 := hP.c10; rw [HK.out] at p0; clear hC hP; go_simp; rfl
     apply ord_norm
     · go_simp; rfl)
  iterate 3
    (apply ord_skip (ho := rfl)
     · go_simp
       try (intro hu; cases hu)
     apply ord_norm
     · go_simp; rfl)
  iterate 2
    (apply ord_pure (ho := rfl)
     · go_simp
     · intro x hx; obtain ⟨hC, hP⟩ := hx; have k0 := hC.k0; have k1 := hC.k1; have p0 := hP.c0; have p1 := hP.c1; have p2 := hP.c2; have p3 := hP.c3; have p4 := hP.c4; have p5 := hP.c5; have p6 := hP.c6; have p7 := hP.c7; have p8 := hP.c8; have p9 := hP.c9; have p10 := hP.c10; rw [HK.out] at p0; clear hC hP; go_simp; rfl
     apply ord_norm
     · go_simp; rfl)
  refine ord_nil fun z hz => ?_
  have hC := Sts.refC hz.tail
  have k2 := hC.k2
  have k8 := hC.k8
  have k4 := hC.k4
  clear hC
  have p0 := (Sts.boxCell hz 0 _ rfl).1
  have p9 := (Sts.boxCell hz 9 _ rfl).1
  have p10 := (Sts.boxCell hz 10 _ rfl).1
  rw [HK.out] at p0
  rw [c1] at k8
  clear c1
  have HZ := hid hz
  clear hz HB p9
  go_wp2_with fail
  go_loopw [8] (fun i wr => ∃ k : Nat, k ≤ p.gaps.length ∧ i = .int .i64 k ∧ (∀ r ∈ p.gaps.take k, r.2 ≤ (s1.data.length : Int)) ∧ Sts W (blkP w.heap.size (.cells #[.int .i64 p.kind, .int .i64 p.src, .int .i64 p.num, .int .i64 p.cls, .string p.name, .int .i64 p.size, .int .i64 p.off, .slice p.da p.data.length p.dc, .int .u32 (p.sum : Nat), .int .i64 p.code, .slice p.ga p.gaps.length p.gc] 45 (0, 0)) :: blkP q (.cells ((s1).rcs (.slice da s1.data.length dc) wv) 38 (0, 0)) :: ownW zh wv (s1).wanted :: l) wr) (fun i _ => p.gaps.length - (intOf i).toNat)
  case atStart => exact ⟨0, by omega, rfl, by simp, HZ.out⟩
  case round =>
    obtain ⟨k, hk, rfl, hpre, hS⟩ := hrel
    have HPR := hid hpre
    have HS1 := hid hS
    have hC := Sts.refC hS.tail
    have k4 := hC.k4
    clear hC
    have p10 := (Sts.boxCell hS 10 _ rfl).1
    clear hpre HZ
    by_cases hlt : k < p.gaps.length
    · obtain ⟨a', c', e', -, hx⟩ := hgb _ hS
      injection e' with e1 e2 e3
      obtain ⟨b, off, hab, hb, c0, c1⟩ := hx k hlt
      rw [← e1] at hab
      clear e1 e2 e3 hx
      have HT : Hid (p.gaps.take (k + 1) = p.gaps.take k ++ [p.gaps[k]]) := hid (by rw [List.take_add_one, List.getElem?_eq_getElem hlt]; rfl)
      generalize p.gaps[k] = x at *
      obtain ⟨f, t⟩ := x
      simp only [] at c0 c1
      rw [hab] at p10
      have HQ := hid (fun n => HS1.out.quiet HLB.out (below_drewN (Below.refl _ _) n))
      clear hS
      cases hd : decide (t > (s1.data.length : Int)) with
      | true =>
        go_wp2_with fail
        go_quiet (fail)
        go_wp2_with fail
        go_ret
        exact ⟨rfl, Sts.shutRef (s := s1) (wv := wv) (HQ.out _).tail⟩
      | false =>
        go_wp2_with fail
        go_quiet (fail)
        go_wp2_with fail
        go_roundw
        case rel =>
          refine ⟨k + 1, by omega, by go_num, ?_, HQ.out _⟩
          intro r hr
          rw [HT.out, List.mem_append] at hr
          rcases hr with hr | hr
          · exact HPR.out r hr
          · simp at hr; subst hr; simpa using hd
        case measure => simp [intOf]; omega
    · obtain rfl : k = p.gaps.length := by omega
      have hpre := HPR.out
      rw [List.take_length] at hpre
      obtain ⟨r, hr, hrr⟩ := HBAD.out
      have := hpre r hr
      omega
set_option maxRecDepth 100000 in
set_option maxHeartbeats 4000000 in
theorem cRTakeNakBadC (hv : p.validB = true) (i1 : (p.src == s1.src) = true) (i2 : (p.num == s1.num) = true) (hk : p.kind = 4) (hc : (s1.cls == 1) = false) (c1 : (s1.phase + 1 == 1) = false) (c2 : (s1.phase + 1 == 2) = false) (hbad : ∃ r ∈ p.gaps, (s1.data.length : Int) < r.2) : Calls Try.prog 72 #[.pointer (some ⟨q, 0, none⟩), .agg p.cells, .int .i64 now] w fun e w' => e = .returned (.int .i64 4) ∧ Sts W (refP zh q (s1) (.slice da s1.data.length dc) :: l) w' := by
  have HBAD := hid hbad
  clear hbad
  have HK := hid hk
  clear hk
  have HPC : p.cells = #[.int .i64 p.kind, .int .i64 p.src, .int .i64 p.num, .int .i64 p.cls, .string p.name, .int .i64 p.size, .int .i64 p.off, .slice p.da p.data.length p.dc, .int .u32 (p.sum : Nat), .int .i64 p.code, .slice p.ga p.gaps.length p.gc] := rfl
  rw [HPC]
  clear HPC
  rw [hdl] at hs
  have hls : ∀ B ∈ refP zh q s (.slice da s1.data.length dc) :: l, Stable B := stabC (refP_stable _ _ _ _) hl
  have hz : Sts W (blkP w.heap.size (.cells #[.int .i64 p.kind, .int .i64 p.src, .int .i64 p.num, .int .i64 p.cls, .string p.name, .int .i64 p.size, .int .i64 p.off, .slice p.da p.data.length p.dc, .int .u32 (p.sum : Nat), .int .i64 p.code, .slice p.ga p.gaps.length p.gc] 45 (0, 0)) :: refP zh q s (.slice da s1.data.length dc) :: l) (w.alloc (.cells #[.int .i64 p.kind, .int .i64 p.src, .int .i64 p.num, .int .i64 p.cls, .string p.name, .int .i64 p.size, .int .i64 p.off, .slice p.da p.data.length p.dc, .int .u32 (p.sum : Nat), .int .i64 p.code, .slice p.ga p.gaps.length p.gc] 45)) := hs.alloc hls (.cells #[.int .i64 p.kind, .int .i64 p.src, .int .i64 p.num, .int .i64 p.cls, .string p.name, .int .i64 p.size, .int .i64 p.off, .slice p.da p.data.length p.dc, .int .u32 (p.sum : Nat), .int .i64 p.code, .slice p.ga p.gaps.length p.gc] 45)
  have hbl : ∀ B ∈ blkP w.heap.size (.cells #[.int .i64 p.kind, .int .i64 p.src, .int .i64 p.num, .int .i64 p.cls, .string p.name, .int .i64 p.size, .int .i64 p.off, .slice p.da p.data.length p.dc, .int .u32 (p.sum : Nat), .int .i64 p.code, .slice p.ga p.gaps.length p.gc] 45 (0, 0)) :: l, Stable B := stabC (blkP_stable _ _) hl
  have hP := cClock hbl zh q s (.slice da s1.data.length dc) hz.swap now
  rw [hp1] at hP
  have HP := hid hP
  obtain ⟨wv0, h0⟩ := Sts.openRef hz.swap
  have k8 : (w.alloc (.cells #[.int .i64 p.kind, .int .i64 p.src, .int .i64 p.num, .int .i64 p.cls, .string p.name, .int .i64 p.size, .int .i64 p.off, .slice p.da p.data.length p.dc, .int .u32 (p.sum : Nat), .int .i64 p.code, .slice p.ga p.gaps.length p.gc] 45)).cell? ⟨q, 8, none⟩ = some (.int .i64 (s.phase + 1)) := (Sts.refC h0).k8
  have HL := hid hl
  have HBL := hid hbl
  have HG := hid hg
  clear hP h0 hz hs hl hbl hp1 hls hg hdl
  go_enter Try.func72, Try.ntmps72
  go_wp2_with (first | (go_at_call 109; refine HP.out.mono ?_; rintro e w1 ⟨rfl, h1⟩; obtain ⟨wv, h2⟩ := Sts.openRef h1; have HB := hid h2.third; clear h1 h2))
  have HLB : Hid (∀ B ∈ blkP w.heap.size (.cells #[.int .i64 p.kind, .int .i64 p.src, .int .i64 p.num, .int .i64 p.cls, .string p.name, .int .i64 p.size, .int .i64 p.off, .slice p.da p.data.length p.dc, .int .u32 (p.sum : Nat), .int .i64 p.code, .slice p.ga p.gaps.length p.gc] 45 (0, 0)) :: blkP q (.cells ((s1).rcs (.slice da s1.data.length dc) wv) 38 (0, 0)) :: ownW zh wv (s1).wanted :: l, Stable B) := hid (stabC (blkP_stable _ _) (stabC (blkP_stable _ _) (stabC (ownW_stable _ _ _) HL.out)))
  have hgb : ∀ y, Sts W (blkP w.heap.size (.cells #[.int .i64 p.kind, .int .i64 p.src, .int .i64 p.num, .int .i64 p.cls, .string p.name, .int .i64 p.size, .int .i64 p.off, .slice p.da p.data.length p.dc, .int .u32 (p.sum : Nat), .int .i64 p.code, .slice p.ga p.gaps.length p.gc] 45 (0, 0)) :: blkP q (.cells ((s1).rcs (.slice da s1.data.length dc) wv) 38 (0, 0)) :: ownW zh wv (s1).wanted :: l) y → RdR y (.slice p.ga p.gaps.length p.gc) p.gaps := fun y hy => HG.out _ y (Sts.shutRef hy.tail)
  refine wp_region_ord (.pure 0 (.eff 1 (.pure 2 (.pure 3 (.pure 4 (.pure 5 (.pure 6 (.pure 7 (.pure 8 (.pure 9 (.pure 10 (.pure 11 (.pure 12 (.pure 13 (.pure 14 (.pure 15 (.pure 16 (.pure 17 (.pure 18 (.pure 19 (.pure 20 (.pure 21 (.pure 22 (.pure 23 (.pure 24 (.pure 25 (.pure 26 .nil))))))))))))))))))))))))))) (fun y => RefC y q s1 (.slice da s1.data.length dc) wv ∧ PduC y w.heap.size p) (fun y => Sts W (blkP w.heap.size (.cells #[.int .i64 p.kind, .int .i64 p.src, .int .i64 p.num, .int .i64 p.cls, .string p.name, .int .i64 p.size, .int .i64 p.off, .slice p.da p.data.length p.dc, .int .u32 (p.sum : Nat), .int .i64 p.code, .slice p.ga p.gaps.length p.gc] 45 (0, 0)) :: blkP q (.cells ((s1).rcs (.slice da s1.data.length dc) wv) 38 (0, 0)) :: ownW zh wv (s1).wanted :: l) y) (by kernel_rfl) (by kernel_rfl) (HB.out.drew HLB.out) (fun y hy => ⟨Sts.refC hy.tail, ⟨(Sts.boxCell hy 0 _ rfl).1, (Sts.boxCell hy 1 _ rfl).1, (Sts.boxCell hy 2 _ rfl).1, (Sts.boxCell hy 3 _ rfl).1, (Sts.boxCell hy 4 _ rfl).1, (Sts.boxCell hy 5 _ rfl).1, (Sts.boxCell hy 6 _ rfl).1, (Sts.boxCell hy 7 _ rfl).1, (Sts.boxCell hy 8 _ rfl).1, (Sts.boxCell hy 9 _ rfl).1, (Sts.boxCell hy 10 _ rfl).1⟩⟩) ?_
  apply ord_pure (ho := rfl)
  · go_simp
  · intro x hx; obtain ⟨hC, hP⟩ := hx; have k0 := hC.k0; have k1 := hC.k1; have p0 := hP.c0; have p1 := hP.c1; have p2 := hP.c2; have p3 := hP.c3; have p4 := hP.c4; have p5 := hP.c5; have p6 := hP.c6; have p7 := hP.c7; have p8 := hP.c8; have p9 := hP.c9; have p10 := hP.c10; clear hC hP; go_simp; rfl
  apply ord_norm
  · go_simp; rfl
  apply ord_eff (ho := rfl)
  · go_simp
  intro y hy
  refine eff_call (f := 57) (by go_simp; rfl) (cRefValid y p hname hdata (by omega) (hgb y hy)) ?_
  rintro e w2 ⟨rfl, hb⟩
  refine ⟨_, rfl, (fun y => RefC y q s1 (.slice da s1.data.length dc) wv ∧ PduC y w.heap.size p), (fun y => Sts W (blkP w.heap.size (.cells #[.int .i64 p.kind, .int .i64 p.src, .int .i64 p.num, .int .i64 p.cls, .string p.name, .int .i64 p.size, .int .i64 p.off, .slice p.da p.data.length p.dc, .int .u32 (p.sum : Nat), .int .i64 p.code, .slice p.ga p.gaps.length p.gc] 45 (0, 0)) :: blkP q (.cells ((s1).rcs (.slice da s1.data.length dc) wv) 38 (0, 0)) :: ownW zh wv (s1).wanted :: l) y), hy.quiet HLB.out hb, (fun y hy => ⟨Sts.refC hy.tail, ⟨(Sts.boxCell hy 0 _ rfl).1, (Sts.boxCell hy 1 _ rfl).1, (Sts.boxCell hy 2 _ rfl).1, (Sts.boxCell hy 3 _ rfl).1, (Sts.boxCell hy 4 _ rfl).1, (Sts.boxCell hy 5 _ rfl).1, (Sts.boxCell hy 6 _ rfl).1, (Sts.boxCell hy 7 _ rfl).1, (Sts.boxCell hy 8 _ rfl).1, (Sts.boxCell hy 9 _ rfl).1, (Sts.boxCell hy 10 _ rfl).1⟩⟩), (fun _ h => h), ?_⟩
  rw [hv]
  clear hb hy y
  apply ord_norm
  · go_simp; rfl
  iterate 2
    (apply ord_pure (ho := rfl)
     · go_simp
     · intro x hx; obtain ⟨hC, hP⟩ := hx; have k0 := hC.k0; have k1 := hC.k1; have p0 := hP.c0; have p1 := hP.c1; have p2 := hP.c2; have p3 := hP.c3; have p4 := hP.c4; have p5 := hP.c5; have p6 := hP.c6; have p7 := hP.c7; have p8 := hP.c8; have p9 := hP.c9; have p10 := hP.c10; rw [HK.out] at p0; clear hC hP; go_simp; rfl
     apply ord_norm
     · go_simp; rfl)
  iterate 9
    (apply ord_pure (ho := rfl)
     · go_simp
     · intro x hx; obtain ⟨hC, hP⟩ := hx; have k0 := hC.k0; have k1 := hC.k1; have p0 := hP.c0; have p1 := hP.c1; have p2 := hP.c2; have p3 := hP.c3; have p4 := hP.c4; have p5 := hP.c5; have p6 := hP.c6; have p7 := hP.c7; have p8 := hP.c8; have p9 := hP.c9; have p10 := hP.c10; rw [HK.out] at p0; clear hC hP; go_simp; rfl
     apply ord_norm
     · go_simp; rfl)
  iterate 4
    (apply ord_pure (ho := rfl)
     · go_simp
     · intro x hx; obtain ⟨hC, hP⟩ := hx; have k0 := hC.k0; have k1 := hC.k1; have p0 := hP.c0; have p1 := hP.c1; have p2 := hP.c2; have p3 := hP.c3; have p4 := hP.c4; have p5 := hP.c5; have p6 := hP.c6; have p7 := hP.c7; have p8 := hP.c8; have p9 := hP.c9; have p10 := hP.c10; rw [HK.out] at p0; clear hC hP; go_simp; rfl
     apply ord_norm
     · go_simp; rfl)
  iterate 3
    (apply ord_skip (ho := rfl)
     · go_simp
       try (intro hu; cases hu)
     apply ord_norm
     · go_simp; rfl)
  iterate 2
    (apply ord_pure (ho := rfl)
     · go_simp
     · intro x hx; obtain ⟨hC, hP⟩ := hx; have k0 := hC.k0; have k1 := hC.k1; have p0 := hP.c0; have p1 := hP.c1; have p2 := hP.c2; have p3 := hP.c3; have p4 := hP.c4; have p5 := hP.c5; have p6 := hP.c6; have p7 := hP.c7; have p8 := hP.c8; have p9 := hP.c9; have p10 := hP.c10; rw [HK.out] at p0; clear hC hP; go_simp; rfl
     apply ord_norm
     · go_simp; rfl)
  iterate 3
    (apply ord_skip (ho := rfl)
     · go_simp
       try (intro hu; cases hu)
     apply ord_norm
     · go_simp; rfl)
  iterate 2
    (apply ord_pure (ho := rfl)
     · go_simp
     · intro x hx; obtain ⟨hC, hP⟩ := hx; have k0 := hC.k0; have k1 := hC.k1; have p0 := hP.c0; have p1 := hP.c1; have p2 := hP.c2; have p3 := hP.c3; have p4 := hP.c4; have p5 := hP.c5; have p6 := hP.c6; have p7 := hP.c7; have p8 := hP.c8; have p9 := hP.c9; have p10 := hP.c10; rw [HK.out] at p0; clear hC hP; go_simp; rfl
     apply ord_norm
     · go_simp; rfl)
  refine ord_nil fun z hz => ?_
  have hC := Sts.refC hz.tail
  have k2 := hC.k2
  have k8 := hC.k8
  have k4 := hC.k4
  clear hC
  have p0 := (Sts.boxCell hz 0 _ rfl).1
  have p9 := (Sts.boxCell hz 9 _ rfl).1
  have p10 := (Sts.boxCell hz 10 _ rfl).1
  rw [HK.out] at p0
  have HZ := hid hz
  clear hz HB p9
  go_wp2_with fail
  go_loopw [8] (fun i wr => ∃ k : Nat, k ≤ p.gaps.length ∧ i = .int .i64 k ∧ (∀ r ∈ p.gaps.take k, r.2 ≤ (s1.data.length : Int)) ∧ Sts W (blkP w.heap.size (.cells #[.int .i64 p.kind, .int .i64 p.src, .int .i64 p.num, .int .i64 p.cls, .string p.name, .int .i64 p.size, .int .i64 p.off, .slice p.da p.data.length p.dc, .int .u32 (p.sum : Nat), .int .i64 p.code, .slice p.ga p.gaps.length p.gc] 45 (0, 0)) :: blkP q (.cells ((s1).rcs (.slice da s1.data.length dc) wv) 38 (0, 0)) :: ownW zh wv (s1).wanted :: l) wr) (fun i _ => p.gaps.length - (intOf i).toNat)
  case atStart => exact ⟨0, by omega, rfl, by simp, HZ.out⟩
  case round =>
    obtain ⟨k, hk, rfl, hpre, hS⟩ := hrel
    have HPR := hid hpre
    have HS1 := hid hS
    have hC := Sts.refC hS.tail
    have k4 := hC.k4
    clear hC
    have p10 := (Sts.boxCell hS 10 _ rfl).1
    clear hpre HZ
    by_cases hlt : k < p.gaps.length
    · obtain ⟨a', c', e', -, hx⟩ := hgb _ hS
      injection e' with e1 e2 e3
      obtain ⟨b, off, hab, hb, c0, c1⟩ := hx k hlt
      rw [← e1] at hab
      clear e1 e2 e3 hx
      have HT : Hid (p.gaps.take (k + 1) = p.gaps.take k ++ [p.gaps[k]]) := hid (by rw [List.take_add_one, List.getElem?_eq_getElem hlt]; rfl)
      generalize p.gaps[k] = x at *
      obtain ⟨f, t⟩ := x
      simp only [] at c0 c1
      rw [hab] at p10
      have HQ := hid (fun n => HS1.out.quiet HLB.out (below_drewN (Below.refl _ _) n))
      clear hS
      cases hd : decide (t > (s1.data.length : Int)) with
      | true =>
        go_wp2_with fail
        go_quiet (fail)
        go_wp2_with fail
        go_ret
        exact ⟨rfl, Sts.shutRef (s := s1) (wv := wv) (HQ.out _).tail⟩
      | false =>
        go_wp2_with fail
        go_quiet (fail)
        go_wp2_with fail
        go_roundw
        case rel =>
          refine ⟨k + 1, by omega, by go_num, ?_, HQ.out _⟩
          intro r hr
          rw [HT.out, List.mem_append] at hr
          rcases hr with hr | hr
          · exact HPR.out r hr
          · simp at hr; subst hr; simpa using hd
        case measure => simp [intOf]; omega
    · obtain rfl : k = p.gaps.length := by omega
      have hpre := HPR.out
      rw [List.take_length] at hpre
      obtain ⟨r, hr, hrr⟩ := HBAD.out
      have := hpre r hr
      omega
set_option maxRecDepth 100000 in
set_option maxHeartbeats 4000000 in
theorem cRTakeNakIdle (hv : p.validB = true) (i1 : (p.src == s1.src) = true) (i2 : (p.num == s1.num) = true) (hk : p.kind = 4) (hc : (s1.cls == 1) = false) (hok : ∀ r ∈ p.gaps, r.2 ≤ (s1.data.length : Int)) (c1 : (s1.phase + 1 == 1) = false) (c2 : (s1.phase + 1 == 2) = false) : Calls Try.prog 72 #[.pointer (some ⟨q, 0, none⟩), .agg p.cells, .int .i64 now] w fun e w' => e = .returned (.int .i64 0) ∧ Sts W (refP zh q (s1) (.slice da s1.data.length dc) :: l) w' := by
  have HOK := hid hok
  clear hok
  have HK := hid hk
  clear hk
  have HPC : p.cells = #[.int .i64 p.kind, .int .i64 p.src, .int .i64 p.num, .int .i64 p.cls, .string p.name, .int .i64 p.size, .int .i64 p.off, .slice p.da p.data.length p.dc, .int .u32 (p.sum : Nat), .int .i64 p.code, .slice p.ga p.gaps.length p.gc] := rfl
  rw [HPC]
  clear HPC
  rw [hdl] at hs
  have hls : ∀ B ∈ refP zh q s (.slice da s1.data.length dc) :: l, Stable B := stabC (refP_stable _ _ _ _) hl
  have hz : Sts W (blkP w.heap.size (.cells #[.int .i64 p.kind, .int .i64 p.src, .int .i64 p.num, .int .i64 p.cls, .string p.name, .int .i64 p.size, .int .i64 p.off, .slice p.da p.data.length p.dc, .int .u32 (p.sum : Nat), .int .i64 p.code, .slice p.ga p.gaps.length p.gc] 45 (0, 0)) :: refP zh q s (.slice da s1.data.length dc) :: l) (w.alloc (.cells #[.int .i64 p.kind, .int .i64 p.src, .int .i64 p.num, .int .i64 p.cls, .string p.name, .int .i64 p.size, .int .i64 p.off, .slice p.da p.data.length p.dc, .int .u32 (p.sum : Nat), .int .i64 p.code, .slice p.ga p.gaps.length p.gc] 45)) := hs.alloc hls (.cells #[.int .i64 p.kind, .int .i64 p.src, .int .i64 p.num, .int .i64 p.cls, .string p.name, .int .i64 p.size, .int .i64 p.off, .slice p.da p.data.length p.dc, .int .u32 (p.sum : Nat), .int .i64 p.code, .slice p.ga p.gaps.length p.gc] 45)
  have hbl : ∀ B ∈ blkP w.heap.size (.cells #[.int .i64 p.kind, .int .i64 p.src, .int .i64 p.num, .int .i64 p.cls, .string p.name, .int .i64 p.size, .int .i64 p.off, .slice p.da p.data.length p.dc, .int .u32 (p.sum : Nat), .int .i64 p.code, .slice p.ga p.gaps.length p.gc] 45 (0, 0)) :: l, Stable B := stabC (blkP_stable _ _) hl
  have hP := cClock hbl zh q s (.slice da s1.data.length dc) hz.swap now
  rw [hp1] at hP
  have HP := hid hP
  obtain ⟨wv0, h0⟩ := Sts.openRef hz.swap
  have k8 : (w.alloc (.cells #[.int .i64 p.kind, .int .i64 p.src, .int .i64 p.num, .int .i64 p.cls, .string p.name, .int .i64 p.size, .int .i64 p.off, .slice p.da p.data.length p.dc, .int .u32 (p.sum : Nat), .int .i64 p.code, .slice p.ga p.gaps.length p.gc] 45)).cell? ⟨q, 8, none⟩ = some (.int .i64 (s.phase + 1)) := (Sts.refC h0).k8
  have HL := hid hl
  have HBL := hid hbl
  have HG := hid hg
  clear hP h0 hz hs hl hbl hp1 hls hg hdl
  go_enter Try.func72, Try.ntmps72
  go_wp2_with (first | (go_at_call 109; refine HP.out.mono ?_; rintro e w1 ⟨rfl, h1⟩; obtain ⟨wv, h2⟩ := Sts.openRef h1; have HB := hid h2.third; clear h1 h2))
  have HLB : Hid (∀ B ∈ blkP w.heap.size (.cells #[.int .i64 p.kind, .int .i64 p.src, .int .i64 p.num, .int .i64 p.cls, .string p.name, .int .i64 p.size, .int .i64 p.off, .slice p.da p.data.length p.dc, .int .u32 (p.sum : Nat), .int .i64 p.code, .slice p.ga p.gaps.length p.gc] 45 (0, 0)) :: blkP q (.cells ((s1).rcs (.slice da s1.data.length dc) wv) 38 (0, 0)) :: ownW zh wv (s1).wanted :: l, Stable B) := hid (stabC (blkP_stable _ _) (stabC (blkP_stable _ _) (stabC (ownW_stable _ _ _) HL.out)))
  have hgb : ∀ y, Sts W (blkP w.heap.size (.cells #[.int .i64 p.kind, .int .i64 p.src, .int .i64 p.num, .int .i64 p.cls, .string p.name, .int .i64 p.size, .int .i64 p.off, .slice p.da p.data.length p.dc, .int .u32 (p.sum : Nat), .int .i64 p.code, .slice p.ga p.gaps.length p.gc] 45 (0, 0)) :: blkP q (.cells ((s1).rcs (.slice da s1.data.length dc) wv) 38 (0, 0)) :: ownW zh wv (s1).wanted :: l) y → RdR y (.slice p.ga p.gaps.length p.gc) p.gaps := fun y hy => HG.out _ y (Sts.shutRef hy.tail)
  refine wp_region_ord (.pure 0 (.eff 1 (.pure 2 (.pure 3 (.pure 4 (.pure 5 (.pure 6 (.pure 7 (.pure 8 (.pure 9 (.pure 10 (.pure 11 (.pure 12 (.pure 13 (.pure 14 (.pure 15 (.pure 16 (.pure 17 (.pure 18 (.pure 19 (.pure 20 (.pure 21 (.pure 22 (.pure 23 (.pure 24 (.pure 25 (.pure 26 .nil))))))))))))))))))))))))))) (fun y => RefC y q s1 (.slice da s1.data.length dc) wv ∧ PduC y w.heap.size p) (fun y => Sts W (blkP w.heap.size (.cells #[.int .i64 p.kind, .int .i64 p.src, .int .i64 p.num, .int .i64 p.cls, .string p.name, .int .i64 p.size, .int .i64 p.off, .slice p.da p.data.length p.dc, .int .u32 (p.sum : Nat), .int .i64 p.code, .slice p.ga p.gaps.length p.gc] 45 (0, 0)) :: blkP q (.cells ((s1).rcs (.slice da s1.data.length dc) wv) 38 (0, 0)) :: ownW zh wv (s1).wanted :: l) y) (by kernel_rfl) (by kernel_rfl) (HB.out.drew HLB.out) (fun y hy => ⟨Sts.refC hy.tail, ⟨(Sts.boxCell hy 0 _ rfl).1, (Sts.boxCell hy 1 _ rfl).1, (Sts.boxCell hy 2 _ rfl).1, (Sts.boxCell hy 3 _ rfl).1, (Sts.boxCell hy 4 _ rfl).1, (Sts.boxCell hy 5 _ rfl).1, (Sts.boxCell hy 6 _ rfl).1, (Sts.boxCell hy 7 _ rfl).1, (Sts.boxCell hy 8 _ rfl).1, (Sts.boxCell hy 9 _ rfl).1, (Sts.boxCell hy 10 _ rfl).1⟩⟩) ?_
  apply ord_pure (ho := rfl)
  · go_simp
  · intro x hx; obtain ⟨hC, hP⟩ := hx; have k0 := hC.k0; have k1 := hC.k1; have p0 := hP.c0; have p1 := hP.c1; have p2 := hP.c2; have p3 := hP.c3; have p4 := hP.c4; have p5 := hP.c5; have p6 := hP.c6; have p7 := hP.c7; have p8 := hP.c8; have p9 := hP.c9; have p10 := hP.c10; clear hC hP; go_simp; rfl
  apply ord_norm
  · go_simp; rfl
  apply ord_eff (ho := rfl)
  · go_simp
  intro y hy
  refine eff_call (f := 57) (by go_simp; rfl) (cRefValid y p hname hdata (by omega) (hgb y hy)) ?_
  rintro e w2 ⟨rfl, hb⟩
  refine ⟨_, rfl, (fun y => RefC y q s1 (.slice da s1.data.length dc) wv ∧ PduC y w.heap.size p), (fun y => Sts W (blkP w.heap.size (.cells #[.int .i64 p.kind, .int .i64 p.src, .int .i64 p.num, .int .i64 p.cls, .string p.name, .int .i64 p.size, .int .i64 p.off, .slice p.da p.data.length p.dc, .int .u32 (p.sum : Nat), .int .i64 p.code, .slice p.ga p.gaps.length p.gc] 45 (0, 0)) :: blkP q (.cells ((s1).rcs (.slice da s1.data.length dc) wv) 38 (0, 0)) :: ownW zh wv (s1).wanted :: l) y), hy.quiet HLB.out hb, (fun y hy => ⟨Sts.refC hy.tail, ⟨(Sts.boxCell hy 0 _ rfl).1, (Sts.boxCell hy 1 _ rfl).1, (Sts.boxCell hy 2 _ rfl).1, (Sts.boxCell hy 3 _ rfl).1, (Sts.boxCell hy 4 _ rfl).1, (Sts.boxCell hy 5 _ rfl).1, (Sts.boxCell hy 6 _ rfl).1, (Sts.boxCell hy 7 _ rfl).1, (Sts.boxCell hy 8 _ rfl).1, (Sts.boxCell hy 9 _ rfl).1, (Sts.boxCell hy 10 _ rfl).1⟩⟩), (fun _ h => h), ?_⟩
  rw [hv]
  clear hb hy y
  apply ord_norm
  · go_simp; rfl
  iterate 2
    (apply ord_pure (ho := rfl)
     · go_simp
     · intro x hx; obtain ⟨hC, hP⟩ := hx; have k0 := hC.k0; have k1 := hC.k1; have p0 := hP.c0; have p1 := hP.c1; have p2 := hP.c2; have p3 := hP.c3; have p4 := hP.c4; have p5 := hP.c5; have p6 := hP.c6; have p7 := hP.c7; have p8 := hP.c8; have p9 := hP.c9; have p10 := hP.c10; rw [HK.out] at p0; clear hC hP; go_simp; rfl
     apply ord_norm
     · go_simp; rfl)
  iterate 9
    (apply ord_pure (ho := rfl)
     · go_simp
     · intro x hx; obtain ⟨hC, hP⟩ := hx; have k0 := hC.k0; have k1 := hC.k1; have p0 := hP.c0; have p1 := hP.c1; have p2 := hP.c2; have p3 := hP.c3; have p4 := hP.c4; have p5 := hP.c5; have p6 := hP.c6; have p7 := hP.c7; have p8 := hP.c8; have p9 := hP.c9; have p10 := hP.c10; rw [HK.out] at p0; clear hC hP; go_simp; rfl
     apply ord_norm
     · go_simp; rfl)
  iterate 4
    (apply ord_pure (ho := rfl)
     · go_simp
     · intro x hx; obtain ⟨hC, hP⟩ := hx; have k0 := hC.k0; have k1 := hC.k1; have p0 := hP.c0; have p1 := hP.c1; have p2 := hP.c2; have p3 := hP.c3; have p4 := hP.c4; have p5 := hP.c5; have p6 := hP.c6; have p7 := hP.c7; have p8 := hP.c8; have p9 := hP.c9; have p10 := hP.c10; rw [HK.out] at p0; clear hC hP; go_simp; rfl
     apply ord_norm
     · go_simp; rfl)
  iterate 3
    (apply ord_skip (ho := rfl)
     · go_simp
       try (intro hu; cases hu)
     apply ord_norm
     · go_simp; rfl)
  iterate 2
    (apply ord_pure (ho := rfl)
     · go_simp
     · intro x hx; obtain ⟨hC, hP⟩ := hx; have k0 := hC.k0; have k1 := hC.k1; have p0 := hP.c0; have p1 := hP.c1; have p2 := hP.c2; have p3 := hP.c3; have p4 := hP.c4; have p5 := hP.c5; have p6 := hP.c6; have p7 := hP.c7; have p8 := hP.c8; have p9 := hP.c9; have p10 := hP.c10; rw [HK.out] at p0; clear hC hP; go_simp; rfl
     apply ord_norm
     · go_simp; rfl)
  iterate 3
    (apply ord_skip (ho := rfl)
     · go_simp
       try (intro hu; cases hu)
     apply ord_norm
     · go_simp; rfl)
  iterate 2
    (apply ord_pure (ho := rfl)
     · go_simp
     · intro x hx; obtain ⟨hC, hP⟩ := hx; have k0 := hC.k0; have k1 := hC.k1; have p0 := hP.c0; have p1 := hP.c1; have p2 := hP.c2; have p3 := hP.c3; have p4 := hP.c4; have p5 := hP.c5; have p6 := hP.c6; have p7 := hP.c7; have p8 := hP.c8; have p9 := hP.c9; have p10 := hP.c10; rw [HK.out] at p0; clear hC hP; go_simp; rfl
     apply ord_norm
     · go_simp; rfl)
  refine ord_nil fun z hz => ?_
  have hC := Sts.refC hz.tail
  have k2 := hC.k2
  have k8 := hC.k8
  have k4 := hC.k4
  clear hC
  have p0 := (Sts.boxCell hz 0 _ rfl).1
  have p9 := (Sts.boxCell hz 9 _ rfl).1
  have p10 := (Sts.boxCell hz 10 _ rfl).1
  rw [HK.out] at p0
  have HZ := hid hz
  clear hz HB p9
  go_wp2_with fail
  go_loopw [8] (fun i wr => ∃ k : Nat, k ≤ p.gaps.length ∧ i = .int .i64 k ∧ (∀ r ∈ p.gaps.take k, r.2 ≤ (s1.data.length : Int)) ∧ Sts W (blkP w.heap.size (.cells #[.int .i64 p.kind, .int .i64 p.src, .int .i64 p.num, .int .i64 p.cls, .string p.name, .int .i64 p.size, .int .i64 p.off, .slice p.da p.data.length p.dc, .int .u32 (p.sum : Nat), .int .i64 p.code, .slice p.ga p.gaps.length p.gc] 45 (0, 0)) :: blkP q (.cells ((s1).rcs (.slice da s1.data.length dc) wv) 38 (0, 0)) :: ownW zh wv (s1).wanted :: l) wr) (fun i _ => p.gaps.length - (intOf i).toNat)
  case atStart => exact ⟨0, by omega, rfl, by simp, HZ.out⟩
  case round =>
    obtain ⟨k, hk, rfl, hpre, hS⟩ := hrel
    have HPR := hid hpre
    have HS1 := hid hS
    have hC := Sts.refC hS.tail
    have k4 := hC.k4
    clear hC
    have p10 := (Sts.boxCell hS 10 _ rfl).1
    clear hpre HZ
    by_cases hlt : k < p.gaps.length
    · obtain ⟨a', c', e', -, hx⟩ := hgb _ hS
      injection e' with e1 e2 e3
      obtain ⟨b, off, hab, hb, c0, c1⟩ := hx k hlt
      rw [← e1] at hab
      clear e1 e2 e3 hx
      have HT : Hid (p.gaps.take (k + 1) = p.gaps.take k ++ [p.gaps[k]]) := hid (by rw [List.take_add_one, List.getElem?_eq_getElem hlt]; rfl)
      have hxk := HOK.out _ (List.getElem_mem hlt)
      generalize p.gaps[k] = x at *
      obtain ⟨f, t⟩ := x
      simp only [] at c0 c1 hxk
      rw [hab] at p10
      have HQ := hid (fun n => HS1.out.quiet HLB.out (below_drewN (Below.refl _ _) n))
      clear hS
      have hd : decide (t > (s1.data.length : Int)) = false := decide_eq_false (by omega)
      clear hxk
      go_wp2_with fail
      go_quiet (fail)
      go_wp2_with fail
      go_roundw
      case rel =>
        refine ⟨k + 1, by omega, by go_num, ?_, HQ.out _⟩
        intro r hr
        rw [HT.out, List.mem_append] at hr
        rcases hr with hr | hr
        · exact HPR.out r hr
        · simp at hr; subst hr; simpa using hd
      case measure => simp [intOf]; omega
    · obtain rfl : k = p.gaps.length := by omega
      clear HPR
      go_wp2_with fail
      go_ret
      exact ⟨rfl, Sts.shutRef (s := s1) (wv := wv) HS1.out.tail⟩
end
end Go.Proofs.Ytfjadhkhmhnccaa
