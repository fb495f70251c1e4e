/- The receiving end: check. -/
import Derived.Test.YtfjadhkhmhnccaaSnkB
set_option linter.unusedVariables false
set_option linter.unusedSimpArgs false
namespace Fil
open Go
def Snk.checkV (s : Snk) : Snk := if (s.phase != 0) = true then s else if s.named = false then s else if s.fin = false then s else if decide (Rng.sizeV (Rng.ofV s.got) < s.size) = true then s else
  if ((sumV s.data : Int) != (s.sum : Int)) = true then s.failV 5 else { s with phase := 1, nak := false }
/-- What the receiving end keeps in bounds. -/
structure Snk.Fit (s : Snk) : Prop where
  hn : s.got.length < 1000000
  hb : ∀ r ∈ s.got, 0 ≤ r.1 ∧ r.2 ≤ 1000000000
  hd : s.data.length < 1000000
  h8 : ∀ x ∈ s.data, x < 256
end Fil
namespace Go.Proofs.Ytfjadhkhmhnccaa
open Go.RowKit Go.Proofs.Num
section
variable {W w : World} {l : List HProp} (hl : ∀ B ∈ l, Stable B) (q : Nat) (s : Fil.Snk) (hs : Sts W (snkP q s :: l) w)
include hl hs
set_option maxRecDepth 100000 in
set_option maxHeartbeats 1000000 in
theorem cChk0 (c1 : (s.phase != 0) = true) : Calls Try.prog 84 #[.pointer (some ⟨q, 0, none⟩)] w fun e w' => e = .returned (.tuple #[]) ∧ Sts W (snkP q s :: l) w' := by
  obtain ⟨dv, gv, h⟩ := Sts.openSnk hs
  have HS := hid h
  have HO := hid hs
  have HL := hid hl
  have hl3 : ∀ B ∈ blkP q (.cells ((s).cells dv gv) 109 (0, 0)) :: rowP 5 1 dv (s).data.length (u8s (s).data) :: rowP 81 2 gv (s).got.length (Fil.rcells (s).got) :: l, Stable B := stabC (blkP_stable _ _) (stabC (rowP_stable _ _ _ _ _) (stabC (rowP_stable _ _ _ _ _) hl))
  have HL3 := hid hl3
  have hC := Sts.snkC h; have k8 := hC.k8; have k11 := hC.k11; have k14 := hC.k14; (try dsimp only at k8 k11 k14); clear hC
  clear h hs hl hl3
  go_enter Try.func84, Try.ntmps84
  go_wp2_with fail
  go_quiet (fail)
  go_wp2_with fail
  ((try simp only [Exit.inBlock, Exit.then]); refine bodyPost_ret (results_none rfl _ _ _) rfl ?_)
  exact ⟨rfl, HO.out.quiet (stabC (snkP_stable _ _) HL.out) (below_drewN (Below.refl _ _) _)⟩
set_option maxRecDepth 100000 in
set_option maxHeartbeats 1000000 in
theorem cChk1 (c1 : (s.phase != 0) = false) (c2 : s.named = false) : Calls Try.prog 84 #[.pointer (some ⟨q, 0, none⟩)] w fun e w' => e = .returned (.tuple #[]) ∧ Sts W (snkP q s :: l) w' := by
  obtain ⟨dv, gv, h⟩ := Sts.openSnk hs
  have HS := hid h
  have HO := hid hs
  have HL := hid hl
  have hl3 : ∀ B ∈ blkP q (.cells ((s).cells dv gv) 109 (0, 0)) :: rowP 5 1 dv (s).data.length (u8s (s).data) :: rowP 81 2 gv (s).got.length (Fil.rcells (s).got) :: l, Stable B := stabC (blkP_stable _ _) (stabC (rowP_stable _ _ _ _ _) (stabC (rowP_stable _ _ _ _ _) hl))
  have HL3 := hid hl3
  have hC := Sts.snkC h; have k8 := hC.k8; have k11 := hC.k11; have k14 := hC.k14; (try dsimp only at k8 k11 k14); clear hC
  clear h hs hl hl3
  rw [c2] at k11
  clear c2
  go_enter Try.func84, Try.ntmps84
  go_wp2_with fail
  go_quiet (fail)
  go_wp2_with fail
  ((try simp only [Exit.inBlock, Exit.then]); refine bodyPost_ret (results_none rfl _ _ _) rfl ?_)
  exact ⟨rfl, HO.out.quiet (stabC (snkP_stable _ _) HL.out) (below_drewN (Below.refl _ _) _)⟩
set_option maxRecDepth 100000 in
set_option maxHeartbeats 1000000 in
theorem cChk2 (c1 : (s.phase != 0) = false) (c2 : s.named = true) (c3 : s.fin = false) : Calls Try.prog 84 #[.pointer (some ⟨q, 0, none⟩)] w fun e w' => e = .returned (.tuple #[]) ∧ Sts W (snkP q s :: l) w' := by
  obtain ⟨dv, gv, h⟩ := Sts.openSnk hs
  have HS := hid h
  have HO := hid hs
  have HL := hid hl
  have hl3 : ∀ B ∈ blkP q (.cells ((s).cells dv gv) 109 (0, 0)) :: rowP 5 1 dv (s).data.length (u8s (s).data) :: rowP 81 2 gv (s).got.length (Fil.rcells (s).got) :: l, Stable B := stabC (blkP_stable _ _) (stabC (rowP_stable _ _ _ _ _) (stabC (rowP_stable _ _ _ _ _) hl))
  have HL3 := hid hl3
  have hC := Sts.snkC h; have k8 := hC.k8; have k11 := hC.k11; have k14 := hC.k14; (try dsimp only at k8 k11 k14); clear hC
  clear h hs hl hl3
  rw [c2] at k11
  clear c2
  rw [c3] at k14
  clear c3
  go_enter Try.func84, Try.ntmps84
  go_wp2_with fail
  go_quiet (fail)
  go_wp2_with fail
  ((try simp only [Exit.inBlock, Exit.then]); refine bodyPost_ret (results_none rfl _ _ _) rfl ?_)
  exact ⟨rfl, HO.out.quiet (stabC (snkP_stable _ _) HL.out) (below_drewN (Below.refl _ _) _)⟩
set_option maxRecDepth 100000 in
set_option maxHeartbeats 1000000 in
theorem cChkLess (c1 : (s.phase != 0) = false) (c2 : Hid (s.named = true)) (c3 : Hid (s.fin = true)) (hft : s.Fit) (c4 : decide (Rng.sizeV (Rng.ofV s.got) < s.size) = true) : Calls Try.prog 84 #[.pointer (some ⟨q, 0, none⟩)] w fun e w' => e = .returned (.tuple #[]) ∧ Sts W (snkP q s :: l) w' := by
  obtain ⟨dv, gv, h⟩ := Sts.openSnk hs
  have HS := hid h
  have HO := hid hs
  have HL := hid hl
  have hl3 : ∀ B ∈ blkP q (.cells ((s).cells dv gv) 109 (0, 0)) :: rowP 5 1 dv (s).data.length (u8s (s).data) :: rowP 81 2 gv (s).got.length (Fil.rcells (s).got) :: l, Stable B := stabC (blkP_stable _ _) (stabC (rowP_stable _ _ _ _ _) (stabC (rowP_stable _ _ _ _ _) hl))
  have HL3 := hid hl3
  clear h hs hl hl3
  have HFT := hid hft
  clear hft
  go_enter Try.func84, Try.ntmps84
  go_wp2_with fail
  refine wp_region_ord (.pure 0 (.pure 1 (.pure 2 (.pure 3 (.pure 4 (.pure 5 (.pure 6 (.pure 7 (.pure 8 (.pure 9 (.pure 10 (.pure 11 (.pure 12 (.pure 13 (.pure 14 (.pure 15 (.pure 16 (.pure 17 (.pure 18 (.pure 19 (.pure 20 (.pure 21 (.pure 22 (.pure 23 (.pure 25 (.pure 26 (.pure 27 (.pure 28 (.eff 24 (.pure 29 (.pure 30 .nil))))))))))))))))))))))))))))))) (fun y => SnkC y q s dv gv) (fun y => Sts W (blkP q (.cells ((s).cells dv gv) 109 (0, 0)) :: rowP 5 1 dv (s).data.length (u8s (s).data) :: rowP 81 2 gv (s).got.length (Fil.rcells (s).got) :: l) y) (by kernel_rfl) (by kernel_rfl) (HS.out.drew HL3.out) (fun y hy => Sts.snkC hy) ?_
  iterate 28
    (apply ord_pure (ho := rfl)
     · go_simp
     · intro x hx; have hC := hx; have k8 := hC.k8; have k11 := hC.k11; have k13 := hC.k13; have k14 := hC.k14; have k18 := hC.k18; (try dsimp only at k8 k11 k13 k14 k18); rw [c2.out] at k11; rw [c3.out] at k14; clear hC; go_simp; rfl
     apply ord_norm
     · go_simp; rfl)
  apply ord_eff (ho := rfl)
  · go_simp
  intro y hy
  refine eff_call (f := 117) (by go_simp) (cSizeR y gv s.got (Sts.snkR hy) HFT.out.hn HFT.out.hb) ?_
  rintro e w2 ⟨rfl, hb⟩
  refine ⟨_, rfl, (fun y => SnkC y q s dv gv), (fun y => Sts W (blkP q (.cells ((s).cells dv gv) 109 (0, 0)) :: rowP 5 1 dv (s).data.length (u8s (s).data) :: rowP 81 2 gv (s).got.length (Fil.rcells (s).got) :: l) y), hy.quiet HL3.out hb, (fun y hy => Sts.snkC hy), (fun _ h => h), ?_⟩
  clear hb hy y
  apply ord_norm
  · go_simp; rfl
  iterate 2
    (apply ord_pure (ho := rfl)
     · go_simp
     · intro x hx; have hC := hx; have k8 := hC.k8; have k11 := hC.k11; have k13 := hC.k13; have k14 := hC.k14; have k18 := hC.k18; (try dsimp only at k8 k11 k13 k14 k18); rw [c2.out] at k11; rw [c3.out] at k14; clear hC; go_simp; rfl
     apply ord_norm
     · go_simp; rfl)
  refine ord_nil fun z hz => ?_
  have HZ := hid (Sts.shutSnk hz)
  clear hz
  go_wp2_with fail
  ((try simp only [Exit.inBlock, Exit.then]); refine bodyPost_ret (results_none rfl _ _ _) rfl ?_)
  exact ⟨rfl, HZ.out⟩
set_option maxRecDepth 100000 in
set_option maxHeartbeats 1000000 in
theorem cChkSum (c1 : (s.phase != 0) = false) (c2 : Hid (s.named = true)) (c3 : Hid (s.fin = true)) (hft : s.Fit) (c4 : decide (Rng.sizeV (Rng.ofV s.got) < s.size) = false) (c5 : ((Fil.sumV s.data : Int) != (s.sum : Int)) = true) : Calls Try.prog 84 #[.pointer (some ⟨q, 0, none⟩)] w fun e w' => e = .returned (.tuple #[]) ∧ Sts W (snkP q (s.failV 5) :: l) w' := by
  obtain ⟨dv, gv, h⟩ := Sts.openSnk hs
  have HS := hid h
  have HO := hid hs
  have HL := hid hl
  have hl3 : ∀ B ∈ blkP q (.cells ((s).cells dv gv) 109 (0, 0)) :: rowP 5 1 dv (s).data.length (u8s (s).data) :: rowP 81 2 gv (s).got.length (Fil.rcells (s).got) :: l, Stable B := stabC (blkP_stable _ _) (stabC (rowP_stable _ _ _ _ _) (stabC (rowP_stable _ _ _ _ _) hl))
  have HL3 := hid hl3
  clear h hs hl hl3
  have HFT := hid hft
  clear hft
  go_enter Try.func84, Try.ntmps84
  go_wp2_with fail
  refine wp_region_ord (.pure 0 (.pure 1 (.pure 2 (.pure 3 (.pure 4 (.pure 5 (.pure 6 (.pure 7 (.pure 8 (.pure 9 (.pure 10 (.pure 11 (.pure 12 (.pure 13 (.pure 14 (.pure 15 (.pure 16 (.pure 17 (.pure 18 (.pure 19 (.pure 20 (.pure 21 (.pure 22 (.pure 23 (.pure 25 (.pure 26 (.pure 27 (.pure 28 (.eff 24 (.pure 29 (.pure 30 .nil))))))))))))))))))))))))))))))) (fun y => SnkC y q s dv gv) (fun y => Sts W (blkP q (.cells ((s).cells dv gv) 109 (0, 0)) :: rowP 5 1 dv (s).data.length (u8s (s).data) :: rowP 81 2 gv (s).got.length (Fil.rcells (s).got) :: l) y) (by kernel_rfl) (by kernel_rfl) (HS.out.drew HL3.out) (fun y hy => Sts.snkC hy) ?_
  iterate 28
    (apply ord_pure (ho := rfl)
     · go_simp
     · intro x hx; have hC := hx; have k8 := hC.k8; have k11 := hC.k11; have k13 := hC.k13; have k14 := hC.k14; have k18 := hC.k18; (try dsimp only at k8 k11 k13 k14 k18); rw [c2.out] at k11; rw [c3.out] at k14; clear hC; go_simp; rfl
     apply ord_norm
     · go_simp; rfl)
  apply ord_eff (ho := rfl)
  · go_simp
  intro y hy
  refine eff_call (f := 117) (by go_simp) (cSizeR y gv s.got (Sts.snkR hy) HFT.out.hn HFT.out.hb) ?_
  rintro e w2 ⟨rfl, hb⟩
  refine ⟨_, rfl, (fun y => SnkC y q s dv gv), (fun y => Sts W (blkP q (.cells ((s).cells dv gv) 109 (0, 0)) :: rowP 5 1 dv (s).data.length (u8s (s).data) :: rowP 81 2 gv (s).got.length (Fil.rcells (s).got) :: l) y), hy.quiet HL3.out hb, (fun y hy => Sts.snkC hy), (fun _ h => h), ?_⟩
  clear hb hy y
  apply ord_norm
  · go_simp; rfl
  iterate 2
    (apply ord_pure (ho := rfl)
     · go_simp
     · intro x hx; have hC := hx; have k8 := hC.k8; have k11 := hC.k11; have k13 := hC.k13; have k14 := hC.k14; have k18 := hC.k18; (try dsimp only at k8 k11 k13 k14 k18); rw [c2.out] at k11; rw [c3.out] at k14; clear hC; go_simp; rfl
     apply ord_norm
     · go_simp; rfl)
  refine ord_nil fun z hz => ?_
  have hC := Sts.snkC hz; have k16 := hC.k16; have k17 := hC.k17; (try dsimp only at k16 k17); clear hC
  have HSM : Hid (∀ n, Calls Try.prog 21 #[dv] (z.drewN n) fun e w' => e = .returned (.int .u32 (Fil.sumV s.data : Nat)) ∧ z.drewN n = w') := hid fun n => cSum (z.drewN n) dv s.data ((show RdB z dv s.data from ⟨Rd.of_own (Sts.rowOwn hz.tail) (u8s_len _), HFT.out.h8⟩).below (below_drewN (Below.refl _ _) n)) (by have := HFT.out.hd; omega)
  have HZ : Hid (∀ n, Sts W (blkP q (.cells ((s).cells dv gv) 109 (0, 0)) :: rowP 5 1 dv (s).data.length (u8s (s).data) :: rowP 81 2 gv (s).got.length (Fil.rcells (s).got) :: l) (z.drewN n)) := hid fun n => hz.quiet HL3.out (below_drewN (Below.refl _ _) n)
  have HF : Hid (∀ n, Calls Try.prog 90 #[.pointer (some ⟨q, 0, none⟩), .int .i64 5] (z.drewN n) fun e w' => e = .returned (.tuple #[]) ∧ Sts W (snkP q (s.failV 5) :: l) w') := hid fun n => cFail HL.out q s (Sts.shutSnk (HZ.out n)) 5
  clear hz
  go_wp2_with fail
  go_quiet ((go_at_call 21; exact Calls.quiet_of ((HSM.out _).mono fun _ _ hh => ⟨hh.1, 0, hh.2.symm⟩)))
  go_wp2_with (first | (go_at_call 90; refine (HF.out _).mono ?_; rintro e w5 ⟨rfl, hw⟩; have HW := hid hw; clear hw))
  ((try simp only [Exit.inBlock, Exit.then]); refine bodyPost_ret (results_none rfl _ _ _) rfl ?_)
  exact ⟨rfl, HW.out⟩
set_option maxRecDepth 100000 in
set_option maxHeartbeats 1000000 in
theorem cChkAll (c1 : (s.phase != 0) = false) (c2 : Hid (s.named = true)) (c3 : Hid (s.fin = true)) (hft : s.Fit) (c4 : decide (Rng.sizeV (Rng.ofV s.got) < s.size) = false) (c5 : ((Fil.sumV s.data : Int) != (s.sum : Int)) = false) : Calls Try.prog 84 #[.pointer (some ⟨q, 0, none⟩)] w fun e w' => e = .returned (.tuple #[]) ∧ Sts W (snkP q ({ s with phase := 1, nak := false }) :: l) w' := by
  obtain ⟨dv, gv, h⟩ := Sts.openSnk hs
  have HS := hid h
  have HO := hid hs
  have HL := hid hl
  have hl3 : ∀ B ∈ blkP q (.cells ((s).cells dv gv) 109 (0, 0)) :: rowP 5 1 dv (s).data.length (u8s (s).data) :: rowP 81 2 gv (s).got.length (Fil.rcells (s).got) :: l, Stable B := stabC (blkP_stable _ _) (stabC (rowP_stable _ _ _ _ _) (stabC (rowP_stable _ _ _ _ _) hl))
  have HL3 := hid hl3
  clear h hs hl hl3
  have HFT := hid hft
  clear hft
  go_enter Try.func84, Try.ntmps84
  go_wp2_with fail
  refine wp_region_ord (.pure 0 (.pure 1 (.pure 2 (.pure 3 (.pure 4 (.pure 5 (.pure 6 (.pure 7 (.pure 8 (.pure 9 (.pure 10 (.pure 11 (.pure 12 (.pure 13 (.pure 14 (.pure 15 (.pure 16 (.pure 17 (.pure 18 (.pure 19 (.pure 20 (.pure 21 (.pure 22 (.pure 23 (.pure 25 (.pure 26 (.pure 27 (.pure 28 (.eff 24 (.pure 29 (.pure 30 .nil))))))))))))))))))))))))))))))) (fun y => SnkC y q s dv gv) (fun y => Sts W (blkP q (.cells ((s).cells dv gv) 109 (0, 0)) :: rowP 5 1 dv (s).data.length (u8s (s).data) :: rowP 81 2 gv (s).got.length (Fil.rcells (s).got) :: l) y) (by kernel_rfl) (by kernel_rfl) (HS.out.drew HL3.out) (fun y hy => Sts.snkC hy) ?_
  iterate 28
    (apply ord_pure (ho := rfl)
     · go_simp
     · intro x hx; have hC := hx; have k8 := hC.k8; have k11 := hC.k11; have k13 := hC.k13; have k14 := hC.k14; have k18 := hC.k18; (try dsimp only at k8 k11 k13 k14 k18); rw [c2.out] at k11; rw [c3.out] at k14; clear hC; go_simp; rfl
     apply ord_norm
     · go_simp; rfl)
  apply ord_eff (ho := rfl)
  · go_simp
  intro y hy
  refine eff_call (f := 117) (by go_simp) (cSizeR y gv s.got (Sts.snkR hy) HFT.out.hn HFT.out.hb) ?_
  rintro e w2 ⟨rfl, hb⟩
  refine ⟨_, rfl, (fun y => SnkC y q s dv gv), (fun y => Sts W (blkP q (.cells ((s).cells dv gv) 109 (0, 0)) :: rowP 5 1 dv (s).data.length (u8s (s).data) :: rowP 81 2 gv (s).got.length (Fil.rcells (s).got) :: l) y), hy.quiet HL3.out hb, (fun y hy => Sts.snkC hy), (fun _ h => h), ?_⟩
  clear hb hy y
  apply ord_norm
  · go_simp; rfl
  iterate 2
    (apply ord_pure (ho := rfl)
     · go_simp
     · intro x hx; have hC := hx; have k8 := hC.k8; have k11 := hC.k11; have k13 := hC.k13; have k14 := hC.k14; have k18 := hC.k18; (try dsimp only at k8 k11 k13 k14 k18); rw [c2.out] at k11; rw [c3.out] at k14; clear hC; go_simp; rfl
     apply ord_norm
     · go_simp; rfl)
  refine ord_nil fun z hz => ?_
  have hC := Sts.snkC hz; have k16 := hC.k16; have k17 := hC.k17; (try dsimp only at k16 k17); clear hC
  have HSM : Hid (∀ n, Calls Try.prog 21 #[dv] (z.drewN n) fun e w' => e = .returned (.int .u32 (Fil.sumV s.data : Nat)) ∧ z.drewN n = w') := hid fun n => cSum (z.drewN n) dv s.data ((show RdB z dv s.data from ⟨Rd.of_own (Sts.rowOwn hz.tail) (u8s_len _), HFT.out.h8⟩).below (below_drewN (Below.refl _ _) n)) (by have := HFT.out.hd; omega)
  have HZ : Hid (∀ n, Sts W (blkP q (.cells ((s).cells dv gv) 109 (0, 0)) :: rowP 5 1 dv (s).data.length (u8s (s).data) :: rowP 81 2 gv (s).got.length (Fil.rcells (s).got) :: l) (z.drewN n)) := hid fun n => hz.quiet HL3.out (below_drewN (Below.refl _ _) n)
  clear hz
  go_wp2_with fail
  go_quiet ((go_at_call 21; exact Calls.quiet_of ((HSM.out _).mono fun _ _ hh => ⟨hh.1, 0, hh.2.symm⟩)))
  go_wp2_with (first | (refine wpList_cell (HZ.out _) (stabC (rowP_stable _ _ _ _ _) (stabC (rowP_stable _ _ _ _ _) HL.out)) rfl (.tmp 47) (.const (.int .i64 1)) 3 rfl 8 (.int .i64 1) rfl rfl szIntK (show 8 < 25 by decide) rfl ?_; intro w4 hz; replace hz : Sts W (blkP q (.cells (({ s with phase := 1 }).cells dv gv) 109 (0, 0)) :: rowP 5 1 dv (s).data.length (u8s (s).data) :: rowP 81 2 gv (s).got.length (Fil.rcells (s).got) :: l) w4 := hz; have H1 := hid hz; clear hz) | (refine wpList_cell H1.out (stabC (rowP_stable _ _ _ _ _) (stabC (rowP_stable _ _ _ _ _) HL.out)) rfl (.tmp 50) (.const (.bool false)) 4 rfl 22 (.bool false) rfl rfl szBoolK (show 22 < 25 by decide) rfl ?_; intro w5 hz; replace hz : Sts W (blkP q (.cells (({ s with phase := 1, nak := false }).cells dv gv) 109 (0, 0)) :: rowP 5 1 dv (s).data.length (u8s (s).data) :: rowP 81 2 gv (s).got.length (Fil.rcells (s).got) :: l) w5 := hz; have H2 := hid hz; clear hz))
  go_end0
  exact ⟨rfl, Sts.shutSnk (s := { s with phase := 1, nak := false }) (dv := dv) (gv := gv) H2.out⟩
theorem cChkK (hft : s.Fit) : Calls Try.prog 84 #[.pointer (some ⟨q, 0, none⟩)] w fun e w' => e = .returned (.tuple #[]) ∧ Sts W (snkP q s.checkV :: l) w' := by
  unfold Fil.Snk.checkV
  split
  · rename_i c1; exact cChk0 hl q s hs c1
  · rename_i c1
    have c1' : (s.phase != 0) = false := by simpa using c1
    split
    · rename_i c2; exact cChk1 hl q s hs c1' c2
    · rename_i c2
      split
      · rename_i c3; exact cChk2 hl q s hs c1' (by simpa using c2) c3
      · rename_i c3
        split
        · rename_i c4; exact cChkLess hl q s hs c1' (hid (by simpa using c2)) (hid (by simpa using c3)) hft c4
        · rename_i c4
          have c4' : decide (Rng.sizeV (Rng.ofV s.got) < s.size) = false := by simpa using c4
          split
          · rename_i c5; exact cChkSum hl q s hs c1' (hid (by simpa using c2)) (hid (by simpa using c3)) hft c4' c5
          · rename_i c5; exact cChkAll hl q s hs c1' (hid (by simpa using c2)) (hid (by simpa using c3)) hft c4' (by simpa using c5)
end
end Go.Proofs.Ytfjadhkhmhnccaa
