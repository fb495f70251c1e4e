/- Configurations of the ground segment that are not valid. -/
import Derived.Test.YtafoihbkhgnecaaGreatStnV
set_option linter.unusedVariables false
set_option linter.unusedSimpArgs false
namespace Go.Proofs.YtafoihbkhgnecaaGreat
open Go.RowKit Go.Proofs.Num
section
variable {W w : World} {l : List HProp} (hl : ∀ B ∈ l, Stable B)
include hl
set_option maxRecDepth 100000 in
set_option maxHeartbeats 4000000 in
theorem cCouBad (chunk to re : Int) (st : Option Addr) (hs : Sts W l w) (hb : ¬ ((1 ≤ chunk ∧ chunk ≤ 512) ∧ (1 ≤ to ∧ to ≤ 1048576) ∧ (0 ≤ re ∧ re ≤ 255))) :
    Calls Tryz.prog 35 #[.int .i64 1, .pointer st, .agg #[.int .i64 chunk, .int .i64 to, .int .i64 re]] w fun e w' => e = .returned (.tuple #[.pointer none, .int .i64 1]) ∧ Sts W l w' := by
  have HS := hid (hs.alloc hl (.cells #[.int .i64 chunk, .int .i64 to, .int .i64 re] 23))
  have k0 := (Sts.boxCell HS.out 0 _ rfl).1
  have k1 := (Sts.boxCell HS.out 1 _ rfl).1
  have k2 := (Sts.boxCell HS.out 2 _ rfl).1
  have HX := hid HS.out.tail
  clear hs HS
  rcases (by omega : chunk < 1 ∨ 512 < chunk ∨ ((1 ≤ chunk ∧ chunk ≤ 512) ∧ to < 1) ∨ ((1 ≤ chunk ∧ chunk ≤ 512) ∧ 1048576 < to) ∨ ((1 ≤ chunk ∧ chunk ≤ 512) ∧ (1 ≤ to ∧ to ≤ 1048576) ∧ re < 0) ∨ ((1 ≤ chunk ∧ chunk ≤ 512) ∧ (1 ≤ to ∧ to ≤ 1048576) ∧ 255 < re)) with h | h | h | h | h | h
  · have d_chunk1 : decide (chunk < 1) = true := decide_eq_true (by omega)
    clear hb h
    go_enter Tryz.func35, Tryz.ntmps35
    go_wp2_with fail
    go_ret2
    exact ⟨rfl, HX.out⟩
  · have d_chunk1 : decide (chunk < 1) = false := decide_eq_false (by omega)
    have d_chunk2 : decide (512 < chunk) = true := decide_eq_true (by omega)
    clear hb h
    go_enter Tryz.func35, Tryz.ntmps35
    go_wp2_with fail
    go_ret2
    exact ⟨rfl, HX.out⟩
  · have d_chunk1 : decide (chunk < 1) = false := decide_eq_false (by omega)
    have d_chunk2 : decide (512 < chunk) = false := decide_eq_false (by omega)
    have d_to1 : decide (to < 1) = true := decide_eq_true (by omega)
    clear hb h
    go_enter Tryz.func35, Tryz.ntmps35
    go_wp2_with fail
    go_ret2
    exact ⟨rfl, HX.out⟩
  · have d_chunk1 : decide (chunk < 1) = false := decide_eq_false (by omega)
    have d_chunk2 : decide (512 < chunk) = false := decide_eq_false (by omega)
    have d_to1 : decide (to < 1) = false := decide_eq_false (by omega)
    have d_to2 : decide (1048576 < to) = true := decide_eq_true (by omega)
    clear hb h
    go_enter Tryz.func35, Tryz.ntmps35
    go_wp2_with fail
    go_ret2
    exact ⟨rfl, HX.out⟩
  · have d_chunk1 : decide (chunk < 1) = false := decide_eq_false (by omega)
    have d_chunk2 : decide (512 < chunk) = false := decide_eq_false (by omega)
    have d_to1 : decide (to < 1) = false := decide_eq_false (by omega)
    have d_to2 : decide (1048576 < to) = false := decide_eq_false (by omega)
    have d_re1 : decide (re < 0) = true := decide_eq_true (by omega)
    clear hb h
    go_enter Tryz.func35, Tryz.ntmps35
    go_wp2_with fail
    go_ret2
    exact ⟨rfl, HX.out⟩
  · have d_chunk1 : decide (chunk < 1) = false := decide_eq_false (by omega)
    have d_chunk2 : decide (512 < chunk) = false := decide_eq_false (by omega)
    have d_to1 : decide (to < 1) = false := decide_eq_false (by omega)
    have d_to2 : decide (1048576 < to) = false := decide_eq_false (by omega)
    have d_re1 : decide (re < 0) = false := decide_eq_false (by omega)
    have d_re2 : decide (255 < re) = true := decide_eq_true (by omega)
    clear hb h
    go_enter Tryz.func35, Tryz.ntmps35
    go_wp2_with fail
    go_ret2
    exact ⟨rfl, HX.out⟩
set_option maxRecDepth 100000 in
set_option maxHeartbeats 2000000 in
theorem cEntityBad (chunk to re : Int) (hs : Sts W l w) (hb : ¬ ((1 ≤ chunk ∧ chunk ≤ 512) ∧ (1 ≤ to ∧ to ≤ 1048576) ∧ (0 ≤ re ∧ re ≤ 255))) :
    Calls Tryz.prog 13 #[.agg #[.int .i64 chunk, .int .i64 to, .int .i64 re]] w fun e w' => e = .returned (.tuple #[.pointer none, .int .i64 1]) ∧ Sts W l w' := by
  have HS := hid (hs.alloc hl (.cells #[.int .i64 chunk, .int .i64 to, .int .i64 re] 23))
  have HL := hid (stabC (blkP_stable w.heap.size (.cells #[.int .i64 chunk, .int .i64 to, .int .i64 re] 23 (0, 0))) hl)
  have HB := hid hb
  clear hs hb
  go_enter Tryz.func13, Tryz.ntmps13
  go_wp2_with fail
  refine wp_region_ord (.pure 1 (.eff 0 (.eff 2 (.pure 3 (.pure 4 (.pure 5 (.pure 6 .nil))))))) (fun y => (loadVar 23 ⟨w.heap.size, 0, none⟩).run Tryz.prog y = .ok (.agg #[.int .i64 chunk, .int .i64 to, .int .i64 re]) y) (fun y => Sts W (blkP w.heap.size (.cells #[.int .i64 chunk, .int .i64 to, .int .i64 re] 23 (0, 0)) :: l) y) (by kernel_rfl) (by kernel_rfl) (HS.out.drew HL.out) (fun y hy => ldCfg hy) ?_
  apply ord_pure (ho := rfl)
  · go_simp
  · exact fun x hx => exec_ldS (.tmp 1) 23 rfl rfl hx
  apply ord_norm
  · go_simp; rfl
  apply ord_eff (ho := rfl)
  · go_simp
  intro y hy
  refine eff_call (f := 36) (by go_simp) (cFilNew HL.out hy 256 4194304 (by omega) (by omega)) ?_
  rintro e w3 ⟨q, m, rfl, h3⟩
  refine ⟨_, rfl, (fun y => (loadVar 23 ⟨w.heap.size, 0, none⟩).run Tryz.prog y = .ok (.agg #[.int .i64 chunk, .int .i64 to, .int .i64 re]) y), (fun y => Sts W (blkP q (.cells #[.int .i64 256, .int .i64 4194304, .map (some m)] 185 (0, 0)) :: blkP m (.map #[] 0) :: blkP w.heap.size (.cells #[.int .i64 chunk, .int .i64 to, .int .i64 re] 23 (0, 0)) :: l) y), h3, (fun y hy => ldCfg hy.tail.tail), (fun _ h => h), ?_⟩
  clear h3 hy y
  apply ord_norm
  · go_simp; rfl
  apply ord_eff (ho := rfl)
  · go_simp
  intro y hy
  refine eff_call (f := 35) (by go_simp) (cCouBad (stabC (blkP_stable _ _) (stabC (blkP_stable _ _) HL.out)) chunk to re (some ⟨q, 0, none⟩) hy HB.out) ?_
  rintro e w4 ⟨rfl, h3⟩
  refine ⟨_, rfl, (fun y => (loadVar 23 ⟨w.heap.size, 0, none⟩).run Tryz.prog y = .ok (.agg #[.int .i64 chunk, .int .i64 to, .int .i64 re]) y), (fun y => Sts W (blkP q (.cells #[.int .i64 256, .int .i64 4194304, .map (some m)] 185 (0, 0)) :: blkP m (.map #[] 0) :: blkP w.heap.size (.cells #[.int .i64 chunk, .int .i64 to, .int .i64 re] 23 (0, 0)) :: l) y), h3, (fun y hy => ldCfg hy.tail.tail), (fun _ h => h), ?_⟩
  clear h3 hy y
  apply ord_norm
  · go_simp; rfl
  iterate 4
    (apply ord_pure (ho := rfl)
     · go_simp
     · intro x hx; go_simp; rfl
     apply ord_norm
     · go_simp; rfl)
  refine ord_nil fun z hz => ?_
  have HZ := hid hz.tail.tail.tail
  clear hz
  go_wp2_with fail
  go_ret2
  exact ⟨rfl, HZ.out⟩
set_option maxRecDepth 100000 in
set_option maxHeartbeats 8000000 in
theorem cValidF (craft win size to re fc ft fr : Int) (hs : Sts W l w) (hb : ¬ ((0 ≤ craft ∧ craft ≤ 1023) ∧ (1 ≤ win ∧ win ≤ 127) ∧ (64 ≤ size ∧ size ≤ 1024) ∧ (1 ≤ to ∧ to ≤ 1048576) ∧ (1 ≤ re ∧ re ≤ 255) ∧ (1 ≤ fc ∧ fc ≤ 512) ∧ (1 ≤ ft ∧ ft ≤ 1048576) ∧ (0 ≤ fr ∧ fr ≤ 255))) :
    Calls Tryz.prog 6 #[.agg #[.int .i64 craft, .int .i64 win, .int .i64 size, .int .i64 to, .int .i64 re, .int .i64 fc, .int .i64 ft, .int .i64 fr]] w fun e w' => e = .returned (.bool false) ∧ Sts W l w' := by
  have HS := hid (hs.alloc hl (.cells #[.int .i64 craft, .int .i64 win, .int .i64 size, .int .i64 to, .int .i64 re, .int .i64 fc, .int .i64 ft, .int .i64 fr] 25))
  have HL := hid (stabC (blkP_stable w.heap.size (.cells #[.int .i64 craft, .int .i64 win, .int .i64 size, .int .i64 to, .int .i64 re, .int .i64 fc, .int .i64 ft, .int .i64 fr] 25 (0, 0))) hl)
  have k0 := (Sts.boxCell HS.out 0 _ rfl).1
  have k1 := (Sts.boxCell HS.out 1 _ rfl).1
  have k2 := (Sts.boxCell HS.out 2 _ rfl).1
  have k3 := (Sts.boxCell HS.out 3 _ rfl).1
  have k4 := (Sts.boxCell HS.out 4 _ rfl).1
  have k5 := (Sts.boxCell HS.out 5 _ rfl).1
  have k6 := (Sts.boxCell HS.out 6 _ rfl).1
  have k7 := (Sts.boxCell HS.out 7 _ rfl).1
  clear hs
  rcases (by omega : ((craft < 0 ∨ 1023 < craft)) ∨ ((0 ≤ craft ∧ craft ≤ 1023) ∧ (win < 1 ∨ 127 < win)) ∨ ((0 ≤ craft ∧ craft ≤ 1023) ∧ (1 ≤ win ∧ win ≤ 127) ∧ (size < 64 ∨ 1024 < size)) ∨ ((0 ≤ craft ∧ craft ≤ 1023) ∧ (1 ≤ win ∧ win ≤ 127) ∧ (64 ≤ size ∧ size ≤ 1024) ∧ (to < 1 ∨ 1048576 < to)) ∨ ((0 ≤ craft ∧ craft ≤ 1023) ∧ (1 ≤ win ∧ win ≤ 127) ∧ (64 ≤ size ∧ size ≤ 1024) ∧ (1 ≤ to ∧ to ≤ 1048576) ∧ (re < 1 ∨ 255 < re)) ∨ ((0 ≤ craft ∧ craft ≤ 1023) ∧ (1 ≤ win ∧ win ≤ 127) ∧ (64 ≤ size ∧ size ≤ 1024) ∧ (1 ≤ to ∧ to ≤ 1048576) ∧ (1 ≤ re ∧ re ≤ 255) ∧ ¬ ((1 ≤ fc ∧ fc ≤ 512) ∧ (1 ≤ ft ∧ ft ≤ 1048576) ∧ (0 ≤ fr ∧ fr ≤ 255)))) with h1 | ⟨h1, h2⟩ | ⟨h1, h2, h3⟩ | ⟨h1, h2, h3, h4⟩ | ⟨h1, h2, h3, h4, h5⟩ | ⟨h1, h2, h3, h4, h5, h6⟩
  · have H1 := hid h1
    clear hb h1
    have HX := hid HS.out.tail
    go_enter Tryz.func6, Tryz.ntmps6
    go_wp2_with (first | (go_at_call 17; refine (cWithinF _ craft _ _ H1.out).mono ?_; rintro e w2 ⟨rfl, rfl⟩; clear H1))
    go_ret
    exact ⟨rfl, HX.out⟩
  · have H1 := hid h1
    have H2 := hid h2
    clear hb h1 h2
    have HX := hid HS.out.tail
    go_enter Tryz.func6, Tryz.ntmps6
    go_wp2_with (first | (go_at_call 17; refine (cWithinT _ craft _ _ H1.out).mono ?_; rintro e w2 ⟨rfl, rfl⟩; clear H1) | (go_at_call 17; refine (cWithinF _ win _ _ H2.out).mono ?_; rintro e w2 ⟨rfl, rfl⟩; clear H2))
    go_ret
    exact ⟨rfl, HX.out⟩
  · have H1 := hid h1
    have H2 := hid h2
    have H3 := hid h3
    clear hb h1 h2 h3
    have HX := hid HS.out.tail
    go_enter Tryz.func6, Tryz.ntmps6
    go_wp2_with (first | (go_at_call 17; refine (cWithinT _ craft _ _ H1.out).mono ?_; rintro e w2 ⟨rfl, rfl⟩; clear H1) | (go_at_call 17; refine (cWithinT _ win _ _ H2.out).mono ?_; rintro e w2 ⟨rfl, rfl⟩; clear H2) | (go_at_call 17; refine (cWithinF _ size _ _ H3.out).mono ?_; rintro e w2 ⟨rfl, rfl⟩; clear H3))
    go_ret
    exact ⟨rfl, HX.out⟩
  · have H1 := hid h1
    have H2 := hid h2
    have H3 := hid h3
    have H4 := hid h4
    clear hb h1 h2 h3 h4
    have HX := hid HS.out.tail
    go_enter Tryz.func6, Tryz.ntmps6
    go_wp2_with (first | (go_at_call 17; refine (cWithinT _ craft _ _ H1.out).mono ?_; rintro e w2 ⟨rfl, rfl⟩; clear H1) | (go_at_call 17; refine (cWithinT _ win _ _ H2.out).mono ?_; rintro e w2 ⟨rfl, rfl⟩; clear H2) | (go_at_call 17; refine (cWithinT _ size _ _ H3.out).mono ?_; rintro e w2 ⟨rfl, rfl⟩; clear H3) | (go_at_call 17; refine (cWithinF _ to _ _ H4.out).mono ?_; rintro e w2 ⟨rfl, rfl⟩; clear H4))
    go_ret
    exact ⟨rfl, HX.out⟩
  · have H1 := hid h1
    have H2 := hid h2
    have H3 := hid h3
    have H4 := hid h4
    have H5 := hid h5
    clear hb h1 h2 h3 h4 h5
    have HX := hid HS.out.tail
    go_enter Tryz.func6, Tryz.ntmps6
    go_wp2_with (first | (go_at_call 17; refine (cWithinT _ craft _ _ H1.out).mono ?_; rintro e w2 ⟨rfl, rfl⟩; clear H1) | (go_at_call 17; refine (cWithinT _ win _ _ H2.out).mono ?_; rintro e w2 ⟨rfl, rfl⟩; clear H2) | (go_at_call 17; refine (cWithinT _ size _ _ H3.out).mono ?_; rintro e w2 ⟨rfl, rfl⟩; clear H3) | (go_at_call 17; refine (cWithinT _ to _ _ H4.out).mono ?_; rintro e w2 ⟨rfl, rfl⟩; clear H4) | (go_at_call 17; refine (cWithinF _ re _ _ H5.out).mono ?_; rintro e w2 ⟨rfl, rfl⟩; clear H5))
    go_ret
    exact ⟨rfl, HX.out⟩
  · have H1 := hid h1
    have H2 := hid h2
    have H3 := hid h3
    have H4 := hid h4
    have H5 := hid h5
    have H6 := hid h6
    clear hb h1 h2 h3 h4 h5 h6
    go_enter Tryz.func6, Tryz.ntmps6
    go_wp2_with (first | (go_at_call 17; refine (cWithinT _ craft _ _ H1.out).mono ?_; rintro e w2 ⟨rfl, rfl⟩; clear H1) | (go_at_call 17; refine (cWithinT _ win _ _ H2.out).mono ?_; rintro e w2 ⟨rfl, rfl⟩; clear H2) | (go_at_call 17; refine (cWithinT _ size _ _ H3.out).mono ?_; rintro e w2 ⟨rfl, rfl⟩; clear H3) | (go_at_call 17; refine (cWithinT _ to _ _ H4.out).mono ?_; rintro e w2 ⟨rfl, rfl⟩; clear H4) | (go_at_call 17; refine (cWithinT _ re _ _ H5.out).mono ?_; rintro e w2 ⟨rfl, rfl⟩; clear H5) | (go_at_call 13; refine (cEntityBad HL.out fc ft fr HS.out H6.out).mono ?_; rintro e w3 ⟨rfl, h⟩; have HX := hid h.tail; clear h))
    go_ret
    exact ⟨rfl, HX.out⟩
end
end Go.Proofs.YtafoihbkhgnecaaGreat
