/- The receiving end: New, File, nil pointers; the units of the law. -/
import Derived.Test.YtfjadhkhmhnccaaSnkM
import Derived.Test.YtfjadhkhmhnccaaSnkB
import Derived.Test.YtfjadhkhmhnccaaRefOf
import Derived.Test.YtfjadhkhmhnccaaRefB
import Derived.Test.YtfjadhkhmhnccaaSrcNew
set_option linter.unusedVariables false
set_option linter.unusedSimpArgs false
namespace Fil
open Go
def snkB (src num cls chunk timeout retries : Int) : Bool := withinB src 0 15 && withinB num 0 65535 && withinB cls 1 2 && (withinB chunk 1 512 && withinB timeout 1 1048576 && withinB retries 0 255)
end Fil
namespace Go.Proofs.Ytfjadhkhmhnccaa
open Go.RowKit Go.Proofs.Num
set_option maxRecDepth 100000 in
theorem cNilClose (w : World) (code now : Int) : Calls Try.prog 50 #[.pointer none, .int .i64 code, .int .i64 now] w fun e w' => e = .returned (.int .i64 2) ∧ Below w.heap.size w w' := by
  have HBL := hid (Below.refl w.heap.size w)
  go_enter Try.func50, Try.ntmps50
  go_wp2_with (first | (go_at_call 81; refine (cValNil _).mono ?_; rintro e w2 ⟨rfl, rfl⟩))
  go_ret
  exact ⟨rfl, HBL.out⟩
set_option maxRecDepth 100000 in
theorem cNilSusp (w : World) (now : Int) : Calls Try.prog 51 #[.pointer none, .int .i64 now] w fun e w' => e = .returned (.int .i64 2) ∧ Below w.heap.size w w' := by
  have HBL := hid (Below.refl w.heap.size w)
  go_enter Try.func51, Try.ntmps51
  go_wp2_with (first | (go_at_call 81; refine (cValNil _).mono ?_; rintro e w2 ⟨rfl, rfl⟩))
  go_ret
  exact ⟨rfl, HBL.out⟩
set_option maxRecDepth 100000 in
theorem cNilRes (w : World) (now : Int) : Calls Try.prog 52 #[.pointer none, .int .i64 now] w fun e w' => e = .returned (.int .i64 2) ∧ Below w.heap.size w w' := by
  have HBL := hid (Below.refl w.heap.size w)
  go_enter Try.func52, Try.ntmps52
  go_wp2_with (first | (go_at_call 81; refine (cValNil _).mono ?_; rintro e w2 ⟨rfl, rfl⟩))
  go_ret
  exact ⟨rfl, HBL.out⟩
set_option maxRecDepth 100000 in
theorem cNilState (w : World)  : Calls Try.prog 42 #[.pointer none] w fun e w' => e = .returned (.int .i64 0) ∧ Below w.heap.size w w' := by
  have HBL := hid (Below.refl w.heap.size w)
  go_enter Try.func42, Try.ntmps42
  go_wp2_with (first | (go_at_call 81; refine (cValNil _).mono ?_; rintro e w2 ⟨rfl, rfl⟩))
  go_ret
  exact ⟨rfl, HBL.out⟩
set_option maxRecDepth 100000 in
theorem cNilMiss (w : World)  : Calls Try.prog 41 #[.pointer none] w fun e w' => e = .returned (.slice none 0 0) ∧ Below w.heap.size w w' := by
  have HBL := hid (Below.refl w.heap.size w)
  go_enter Try.func41, Try.ntmps41
  go_wp2_with (first | (go_at_call 81; refine (cValNil _).mono ?_; rintro e w2 ⟨rfl, rfl⟩))
  go_ret
  exact ⟨rfl, HBL.out⟩
set_option maxRecDepth 100000 in
theorem cNilClone (w : World)  : Calls Try.prog 53 #[.pointer none] w fun e w' => e = .returned (.pointer none) ∧ Below w.heap.size w w' := by
  have HBL := hid (Below.refl w.heap.size w)
  go_enter Try.func53, Try.ntmps53
  go_wp2_with (first | (go_at_call 81; refine (cValNil _).mono ?_; rintro e w2 ⟨rfl, rfl⟩))
  go_ret
  exact ⟨rfl, HBL.out⟩
set_option maxRecDepth 100000 in
theorem cNilTake (w : World) (now : Int) : Calls Try.prog 36 #[.pointer none, .agg #[.int .i64 0, .int .i64 0, .int .i64 0, .int .i64 0, .string ⟨#[]⟩, .int .i64 0, .int .i64 0, .slice none 0 0, .int .u32 0, .int .i64 0, .slice none 0 0], .int .i64 now] w fun e w' => e = .returned (.int .i64 2) ∧ Below w.heap.size w w' := by
  have HBL := hid ((Below.refl w.heap.size w).alloc (Nat.le_refl _) (.cells #[.int .i64 0, .int .i64 0, .int .i64 0, .int .i64 0, .string ⟨#[]⟩, .int .i64 0, .int .i64 0, .slice none 0 0, .int .u32 0, .int .i64 0, .slice none 0 0] 45))
  go_enter Try.func36, Try.ntmps36
  go_wp2_with (first | (go_at_call 81; refine (cValNil _).mono ?_; rintro e w2 ⟨rfl, rfl⟩))
  go_ret
  exact ⟨rfl, HBL.out⟩
set_option maxRecDepth 100000 in
theorem cNilNext (w : World) (now : Int) : Calls Try.prog 44 #[.pointer none, .int .i64 now] w fun e w' => e = .returned (.tuple #[.agg zeroPdu, .bool false]) ∧ Below w.heap.size w w' := by
  have HA : Hid (Sts w [blkP w.heap.size (.cells zeroPdu 45 (0, 0))] (w.alloc (.cells #[.int .i64 0, .int .i64 0, .int .i64 0, .int .i64 0, .string ⟨#[]⟩, .int .i64 0, .int .i64 0, .slice none 0 0, .int .u32 0, .int .i64 0, .slice none 0 0] 45))) := hid ((Sts.nil w).alloc stab0 (.cells zeroPdu 45 (0, 0)))
  go_enter Try.func44, Try.ntmps44
  go_wp2_with (first | (go_at_call 81; refine (cValNil _).mono ?_; rintro e w2 ⟨rfl, rfl⟩) | (refine wpList_agg HA.out stab0 rfl (.tmp 4) (.tmp 12) 45 rfl zeroPdu rfl rfl sizePdu rfl rfl ?_; intro w5 hz; have HF := hid hz; clear hz))
  exact post_cell2 HF.out Try.results44 rfl rfl (ldPdu rfl HF.out) _ rfl ⟨rfl, HF.out.below⟩
section
variable {W w : World} {l : List HProp} (hl : ∀ B ∈ l, Stable B) (src num cls chunk timeout retries : Int) (hs : Sts W l w)
include hl hs
set_option maxRecDepth 100000 in
set_option maxHeartbeats 2000000 in
theorem cKNewOk (hb : Fil.snkB src num cls chunk timeout retries = true) : Calls Try.prog 33 #[.agg #[.int .i64 src, .int .i64 num], .int .i64 cls, .agg #[.int .i64 chunk, .int .i64 timeout, .int .i64 retries]] w fun e w' => ∃ q, e = .returned (.tuple #[.pointer (some ⟨q, 0, none⟩), .int .i64 0]) ∧ Sts W (snkP q { src := src, num := num, cls := cls, chunk := chunk, timeout := timeout, retries := retries } :: l) w' := by
  have hs1 := hs.alloc hl (.cells #[.int .i64 src, .int .i64 num] 23)
  have hst1 : ∀ B ∈ blkP w.heap.size (.cells #[.int .i64 src, .int .i64 num] 23) :: l, Stable B := stabC (blkP_stable _ _) hl
  have hs2 := hs1.alloc hst1 (.cells #[.int .i64 chunk, .int .i64 timeout, .int .i64 retries] 26)
  rw [show (w.alloc (.cells #[.int .i64 src, .int .i64 num] 23)).heap.size = w.heap.size + 1 by simp] at hs2
  have hst2 : ∀ B ∈ blkP (w.heap.size + 1) (.cells #[.int .i64 chunk, .int .i64 timeout, .int .i64 retries] 26) :: blkP w.heap.size (.cells #[.int .i64 src, .int .i64 num] 23) :: l, Stable B := stabC (blkP_stable _ _) hst1
  have c0 := (Sts.boxCell hs2 0 _ rfl).1
  have c1 := (Sts.boxCell hs2 1 _ rfl).1
  have c2 := (Sts.boxCell hs2 2 _ rfl).1
  have d0 := (Sts.boxCell hs2.tail 0 _ rfl).1
  have d1 := (Sts.boxCell hs2.tail 1 _ rfl).1
  have HB := hid (hs2.alloc hst2 (.cells #[.bool true, .int .i64 src, .int .i64 num, .int .i64 cls, .int .i64 chunk, .int .i64 timeout, .int .i64 retries, .int .i64 0, .int .i64 0, .bool false, .bool false, .bool false, .string ⟨#[]⟩, .int .i64 0, .bool false, .int .i64 0, .int .u32 0, .slice none 0 0, .slice none 0 0, .int .i64 0, .int .i64 0, .bool false, .bool false, .bool false, .int .i64 0] 109))
  rw [show ((w.alloc (.cells #[.int .i64 src, .int .i64 num] 23)).alloc (.cells #[.int .i64 chunk, .int .i64 timeout, .int .i64 retries] 26)).heap.size = w.heap.size + 1 + 1 by simp] at HB
  unfold Fil.snkB at hb
  simp only [Bool.and_eq_true] at hb
  obtain ⟨⟨⟨h0, h1⟩, h2⟩, ⟨h3, h4⟩, h5⟩ := hb
  clear hs1 hs2 hst1 hst2 hs hl
  go_enter Try.func33, Try.ntmps33
  go_wp2_with (first | (go_at_call 80; refine (cKWithin _ _ _ _).mono ?_; rintro e w' ⟨rfl, rfl⟩))
  go_ret2
  refine ⟨_, rfl, ?_⟩
  have hB := HB.out
  have h9 := ((Sts.rowNilK 5 1 (Sts.rowNilK 81 2 hB)).third)
  have h10 : Sts W (snkP _ { src := src, num := num, cls := cls, chunk := chunk, timeout := timeout, retries := retries } :: blkP (w.heap.size + 1) (.cells #[.int .i64 chunk, .int .i64 timeout, .int .i64 retries] 26) :: blkP w.heap.size (.cells #[.int .i64 src, .int .i64 num] 23) :: l) _ := Sts.shutSnk (s := { src := src, num := num, cls := cls, chunk := chunk, timeout := timeout, retries := retries }) (dv := .slice none 0 0) (gv := .slice none 0 0) h9
  exact h10.swap.tail.swap.tail
omit hl hs in
set_option maxRecDepth 100000 in
set_option maxHeartbeats 2000000 in
theorem cKNewBad (hb : Fil.snkB src num cls chunk timeout retries = false) : Calls Try.prog 33 #[.agg #[.int .i64 src, .int .i64 num], .int .i64 cls, .agg #[.int .i64 chunk, .int .i64 timeout, .int .i64 retries]] w fun e w' => e = .returned (.tuple #[.pointer none, .int .i64 1]) ∧ Below w.heap.size w w' := by
  have hs0 := Sts.nil w
  have hs1 := hs0.alloc stab0 (.cells #[.int .i64 src, .int .i64 num] 23)
  have hs2 := hs1.alloc (stab1 (blkP_stable _ _)) (.cells #[.int .i64 chunk, .int .i64 timeout, .int .i64 retries] 26)
  rw [show (w.alloc (.cells #[.int .i64 src, .int .i64 num] 23)).heap.size = w.heap.size + 1 by simp] at hs2
  have c0 := (Sts.boxCell hs2 0 _ rfl).1
  have c1 := (Sts.boxCell hs2 1 _ rfl).1
  have c2 := (Sts.boxCell hs2 2 _ rfl).1
  have d0 := (Sts.boxCell hs2.tail 0 _ rfl).1
  have d1 := (Sts.boxCell hs2.tail 1 _ rfl).1
  have HB := hid hs2.below
  have hb' : Fil.withinB src 0 15 = false ∨ (Fil.withinB src 0 15 = true ∧ Fil.withinB num 0 65535 = false) ∨ (Fil.withinB src 0 15 = true ∧ Fil.withinB num 0 65535 = true ∧ Fil.withinB cls 1 2 = false) ∨ (Fil.withinB src 0 15 = true ∧ Fil.withinB num 0 65535 = true ∧ Fil.withinB cls 1 2 = true ∧ Fil.withinB chunk 1 512 = false) ∨ (Fil.withinB src 0 15 = true ∧ Fil.withinB num 0 65535 = true ∧ Fil.withinB cls 1 2 = true ∧ Fil.withinB chunk 1 512 = true ∧ Fil.withinB timeout 1 1048576 = false) ∨ (Fil.withinB src 0 15 = true ∧ Fil.withinB num 0 65535 = true ∧ Fil.withinB cls 1 2 = true ∧ Fil.withinB chunk 1 512 = true ∧ Fil.withinB timeout 1 1048576 = true ∧ Fil.withinB retries 0 255 = false) := by
    unfold Fil.snkB at hb
    cases q1 : Fil.withinB src 0 15 <;> cases q2 : Fil.withinB num 0 65535 <;> cases q3 : Fil.withinB cls 1 2 <;> cases q4 : Fil.withinB chunk 1 512 <;> cases q5 : Fil.withinB timeout 1 1048576 <;> cases q6 : Fil.withinB retries 0 255 <;> simp_all
  clear hs0 hs1 hs2 hb
  rcases hb' with h0 | ⟨h0, h1⟩ | ⟨h0, h1, h2⟩ | ⟨h0, h1, h2, h3⟩ | ⟨h0, h1, h2, h3, h4⟩ | ⟨h0, h1, h2, h3, h4, h5⟩
  all_goals
    go_enter Try.func33, Try.ntmps33
    go_wp2_with (first | (go_at_call 80; refine (cKWithin _ _ _ _).mono ?_; rintro e w' ⟨rfl, rfl⟩))
    go_ret2
    exact ⟨rfl, HB.out⟩
end
section
variable {W w : World} {l : List HProp} (hl : ∀ B ∈ l, Stable B) (q : Nat) (s : Fil.Snk) (hs : Sts W (snkP q s :: l) w)
include hl hs
omit hl in
set_option maxRecDepth 100000 in
set_option maxHeartbeats 2000000 in
theorem cFileNo (n1 : (s.phase != 1) = true) (n2 : (s.phase != 2) = true) : Calls Try.prog 40 #[.pointer (some ⟨q, 0, none⟩)] w fun e w' => e = .returned (.tuple #[.string ⟨#[]⟩, .slice none 0 0, .bool false]) ∧ Sts W (snkP q s :: l) w' := by
  obtain ⟨dv, gv, h⟩ := Sts.openSnk hs
  have hC := Sts.snkC h
  have k8 := hC.k8
  have HVL := hid (cVal w q hC.k0)
  have HS := hid hs
  try dsimp only at k8
  clear hC h hs
  go_enter Try.func40, Try.ntmps40
  go_wp2_with (first | (go_at_call 81; refine HVL.out.mono ?_; rintro e w2 ⟨rfl, rfl⟩))
  go_ret3
  exact ⟨rfl, HS.out⟩
set_option maxRecDepth 100000 in
set_option maxHeartbeats 2000000 in
theorem cFileYes (hp : s.phase = 1 ∨ s.phase = 2) (hft : s.Fit) : Calls Try.prog 40 #[.pointer (some ⟨q, 0, none⟩)] w fun e w' => ∃ r, e = .returned (.tuple #[.string s.name, r, .bool true]) ∧ Sts W (rowP 5 1 r s.data.length (u8s s.data) :: snkP q s :: l) w' := by
  obtain ⟨dv, gv, h⟩ := Sts.openSnk hs
  have hC := Sts.snkC h
  have k8 := hC.k8
  have HVL := hid (cVal w q hC.k0)
  have HS := hid h
  have HL := hid hl
  have HFT := hid hft
  try dsimp only at k8
  clear hC h hs hl hft
  rcases hp with hp | hp
  all_goals
    rw [hp] at k8
    clear hp
    go_enter Try.func40, Try.ntmps40
    go_wp2_with (first | (go_at_call 81; refine HVL.out.mono ?_; rintro e w2 ⟨rfl, rfl⟩))
    refine wp_region_ord (.pure 0 (.pure 1 (.pure 2 (.pure 3 (.pure 4 (.pure 5 (.pure 6 (.pure 7 (.eff 8 (.pure 9 (.pure 10 (.pure 11 .nil)))))))))))) (fun y => SnkC y q s dv gv) (fun y => Sts W (blkP q (.cells ((s).cells dv gv) 109 (0, 0)) :: rowP 5 1 dv (s).data.length (u8s (s).data) :: rowP 81 2 gv (s).got.length (Fil.rcells (s).got) :: l) y) (by kernel_rfl) (by kernel_rfl) (HS.out.drew (stabC (blkP_stable _ _) (stabC (rowP_stable _ _ _ _ _) (stabC (rowP_stable _ _ _ _ _) HL.out)))) (fun y hy => Sts.snkC hy) ?_
    iterate 8
      (apply ord_pure (ho := rfl)
       · go_simp
       · intro x hx; have k12 := hx.k12; have k17 := hx.k17; clear hx; go_simp; rfl
       apply ord_norm
       · go_simp; rfl)
    apply ord_eff (ho := rfl)
    · go_simp
    intro y hy
    refine eff_call (f := 56) (by go_simp) (cCloneB y dv s.data ⟨Rd.of_own (Sts.rowOwn hy.tail) (u8s_len _), HFT.out.h8⟩ (by have := HFT.out.hd; omega)) ?_
    rintro e w2 ⟨r, rfl, hN⟩
    have hs2 := hy.new (stabC (blkP_stable _ _) (stabC (rowP_stable _ _ _ _ _) (stabC (rowP_stable _ _ _ _ _) HL.out))) hN
    rw [u8s_len] at hs2
    refine ⟨_, rfl, (fun y => SnkC y q s dv gv), (fun y => Sts W (rowP 5 1 r s.data.length (u8s s.data) :: blkP q (.cells ((s).cells dv gv) 109 (0, 0)) :: rowP 5 1 dv (s).data.length (u8s (s).data) :: rowP 81 2 gv (s).got.length (Fil.rcells (s).got) :: l) y), hs2, (fun y hy => Sts.snkC hy.tail), (fun _ h => h), ?_⟩
    have HRE := hid hN.rd.eq
    clear hs2 hN hy y
    apply ord_norm
    · go_simp; rfl
    iterate 3
      (apply ord_pure (ho := rfl)
       · go_simp
       · intro x hx; go_simp; rfl
       apply ord_norm
       · go_simp; rfl)
    refine ord_nil fun z hz => ?_
    have HZ := hid hz
    clear hz
    go_wp2_with fail
    go_ret3
    exact ⟨r, rfl, ((Sts.shutSnk (s := s) (HZ.out.perm (List.perm_middle (l₁ := [_, _, _]) (l₂ := l)).symm)).swap)⟩
end
set_option maxRecDepth 100000 in
theorem infoFid : (Try.prog.info? 23).map (·.size) = some 2 := by kernel_rfl
set_option maxRecDepth 100000 in
theorem infoCfg : (Try.prog.info? 26).map (·.size) = some 3 := by kernel_rfl
set_option maxRecDepth 100000 in
theorem sizeFid : ∀ w, (Go.sizeOf 23).run Try.prog w = .ok 2 w := fun w => by first | rfl | simp [go_sem] | kernel_rfl
set_option maxRecDepth 100000 in
theorem sizeCfg : ∀ w, (Go.sizeOf 26).run Try.prog w = .ok 3 w := fun w => by first | rfl | simp [go_sem] | kernel_rfl
theorem ldFid {W w : World} {l : List HProp} {b : Nat} {cs : Array Value} (hs : cs.size = 2) (h : Sts W (blkP b (.cells cs 23 (0, 0)) :: l) w) : (loadVar 23 ⟨b, 0, none⟩).run Try.prog w = .ok (.agg cs) w := by
  have hb : w.heap[b]? = some (.cells cs 23 (0, 0)) := by obtain ⟨F, hF⟩ := h.head; exact hF.1
  exact run_loadVar_row (P := Try.prog) w b 23 23 cs (0, 0) _ hb Try.underlying23 rfl (by rw [infoFid, hs])
theorem ldCfg {W w : World} {l : List HProp} {b : Nat} {cs : Array Value} (hs : cs.size = 3) (h : Sts W (blkP b (.cells cs 26 (0, 0)) :: l) w) : (loadVar 26 ⟨b, 0, none⟩).run Try.prog w = .ok (.agg cs) w := by
  have hb : w.heap[b]? = some (.cells cs 26 (0, 0)) := by obtain ⟨F, hF⟩ := h.head; exact hF.1
  exact run_loadVar_row (P := Try.prog) w b 26 26 cs (0, 0) _ hb Try.underlying26 rfl (by rw [infoCfg, hs])
set_option maxRecDepth 100000 in
theorem cLId (w : World) : Calls Try.prog 34 #[] w fun e w' => e = .returned (.agg #[.int .i64 1, .int .i64 5]) ∧ Below w.heap.size w w' := by
  have HA := hid ((Sts.nil w).alloc stab0 (.cells #[.int .i64 0, .int .i64 0] 23 (0, 0)))
  go_enter Try.func34, Try.ntmps34
  go_wp2_with (first | (refine wpList_agg HA.out stab0 rfl (.tmp 0) (.tmp 1) 23 rfl #[.int .i64 1, .int .i64 5] rfl rfl sizeFid rfl rfl ?_; intro w5 hz; have HF := hid hz; clear hz))
  exact post_cell1 HF.out Try.results34 rfl rfl (ldFid rfl HF.out) ⟨rfl, HF.out.below⟩
set_option maxRecDepth 100000 in
theorem cLConfig (w : World) : Calls Try.prog 35 #[] w fun e w' => e = .returned (.agg #[.int .i64 2, .int .i64 10, .int .i64 2]) ∧ Below w.heap.size w w' := by
  have HA := hid ((Sts.nil w).alloc stab0 (.cells #[.int .i64 0, .int .i64 0, .int .i64 0] 26 (0, 0)))
  go_enter Try.func35, Try.ntmps35
  go_wp2_with (first | (refine wpList_agg HA.out stab0 rfl (.tmp 0) (.tmp 1) 26 rfl #[.int .i64 2, .int .i64 10, .int .i64 2] rfl rfl sizeCfg rfl rfl ?_; intro w5 hz; have HF := hid hz; clear hz))
  exact post_cell1 HF.out Try.results35 rfl rfl (ldCfg rfl HF.out) ⟨rfl, HF.out.below⟩
set_option maxRecDepth 100000 in
theorem cLMeta (w : World) (c : Int) (a : Option Addr) (n cap : Nat) : Calls Try.prog 37 #[.int .i64 c, .slice a n cap] w fun e w' => e = .returned (.agg (Fil.metaP c n).cells) ∧ Below w.heap.size w w' := by
  have HA : Hid (Sts w [blkP w.heap.size (.cells zeroPdu 45 (0, 0))] (w.alloc (.cells #[.int .i64 0, .int .i64 0, .int .i64 0, .int .i64 0, .string ⟨#[]⟩, .int .i64 0, .int .i64 0, .slice none 0 0, .int .u32 0, .int .i64 0, .slice none 0 0] 45))) := hid ((Sts.nil w).alloc stab0 (.cells zeroPdu 45 (0, 0)))
  go_enter Try.func37, Try.ntmps37
  go_wp2_with (first | (go_at_call 34; refine (cLId _).mono ?_; rintro e w1 ⟨rfl, hb⟩; have HB := hid (HA.out.quiet (stab1 (blkP_stable _ _)) hb); clear hb) | (refine wpList_agg HB.out stab0 rfl (.tmp 4) (.tmp 9) 45 rfl (Fil.metaP c n).cells rfl rfl sizePdu rfl rfl ?_; intro w5 hz; have HF := hid hz; clear hz))
  exact post_cell1 HF.out Try.results37 rfl rfl (ldPdu rfl HF.out) ⟨rfl, HF.out.below⟩
set_option maxRecDepth 100000 in
theorem cLEnd (w : World) (c : Int) (v : Value) (b : List Nat) (hb : RdB w v b) (hn : b.length < 100000000) : Calls Try.prog 38 #[.int .i64 c, v] w fun e w' => e = .returned (.agg (Fil.endP c b.length (Fil.sumV b)).cells) ∧ Below w.heap.size w w' := by
  have HA : Hid (Sts w [blkP w.heap.size (.cells zeroPdu 45 (0, 0))] (w.alloc (.cells #[.int .i64 0, .int .i64 0, .int .i64 0, .int .i64 0, .string ⟨#[]⟩, .int .i64 0, .int .i64 0, .slice none 0 0, .int .u32 0, .int .i64 0, .slice none 0 0] 45))) := hid ((Sts.nil w).alloc stab0 (.cells zeroPdu 45 (0, 0)))
  obtain ⟨a, cap, rfl, _⟩ := hb.open
  have HR := hid hb
  have HN := hid hn
  clear hb hn
  go_enter Try.func38, Try.ntmps38
  go_wp2_with (first | (go_at_call 34; refine (cLId _).mono ?_; rintro e w1 ⟨rfl, hb⟩; have HB := hid (HA.out.quiet (stab1 (blkP_stable _ _)) hb); clear hb) | (go_at_call 43; refine (cRefSum _ _ b (HR.out.below HB.out.below) HN.out).mono ?_; rintro e w2 ⟨rfl, rfl⟩) | (refine wpList_agg HB.out stab0 rfl (.tmp 4) (.tmp 11) 45 rfl (Fil.endP c b.length (Fil.sumV b)).cells rfl rfl sizePdu rfl rfl ?_; intro w5 hz; have HF := hid hz; clear hz))
  exact post_cell1 HF.out Try.results38 rfl rfl (ldPdu rfl HF.out) ⟨rfl, HF.out.below⟩
set_option maxRecDepth 100000 in
/-- append of bytes in a drawn region. -/
theorem eff_appendB {L : Prop} {W0 y : World} {o : Oper} {a : Act} {K : Act → WP → WP → Prop} {v : Value} {l m : List Nat} {M : List HProp}
    (hS : Sts W0 (rowP 5 1 v l.length (u8s l) :: M) y) (hM : ∀ A ∈ M, Stable A) (s x : Operand)
    (ho : o.op = .call { callee := .builtin .append, args := #[s, x], argTypes := #[24, 24] }) (hs : a.eval s = v) (ad : Addr) (c : Nat) (hx : a.eval x = .slice (some ad) m.length c) (hrd : Rd y (.slice (some ad) m.length c) (u8s m)) (hlen : l.length + m.length < 1000000000) (D : WP)
    (hD : ∀ v' z, Sts W0 (rowP 5 1 v' (l ++ m).length (u8s (l ++ m)) :: M) z → D z)
    (hk : ∀ v', (∃ va vc, v' = .slice va (l ++ m).length vc) → K (a.put o.dst v') D (fun z => Sts W0 (rowP 5 1 v' (l ++ m).length (u8s (l ++ m)) :: M) z)) :
    effUpon Try.prog L o.dst a D K ((execOp a.eval o).run Try.prog y) := by
  obtain ⟨i0, hi, hz0, hz1, hz2⟩ := info_parts info8
  have hnews : ∀ j u, (u8s m)[j]? = some u → y.cell? (ad.add j) = some u := by
    intro j u hj
    obtain ⟨a', c', e', _, hx⟩ := hrd
    injection e' with e1 e2 e3
    obtain ⟨hlt, hju⟩ := List.getElem?_eq_some_iff.1 hj
    obtain ⟨b, off, g1, g2, g3⟩ := hx j hlt
    rw [← e1] at g1
    injection g1 with g1
    subst g1
    rw [plain_add, g3, hju]
  obtain ⟨v', w', hrun, hown, hgr, _, hbl⟩ := run_append_own_at (P := Try.prog) y 0 24 o.type 5 i0 (.int .u8 0) 1 1 Try.underlying24 hi hz0 hz1 hz2 rfl (by decide) v l.length (u8s l) (Sts.rowOwn hS) ad m.length c (u8s m) (by rw [u8s_len, Nat.mul_one]) hnews (u8s_one m) (by unfold maxLen; omega) (by omega) (Nat.zero_le _)
  have h := Sts.grown hM hS hgr hown (by
    intro k hk
    rcases hbl with h | h
    · exact Or.inl (h ▸ hk)
    · rw [h] at hk; injection hk with hk; exact Or.inr (by omega))
  rw [show l.length + m.length = (l ++ m).length by simp, show u8s l ++ u8s m = u8s (l ++ m) by simp [u8s]] at h
  have he := (Rd.of_own (Sts.rowOwn h) (u8s_len _)).eq
  rw [u8s_len] at he
  have hr : (execOp a.eval o).run Try.prog y = .ok (.value v') w' := by
    simp [execOp, ho, resolve, invoke, builtin, hs, hx, hrun, Result.andThen]
  exact eff_value D _ hr h (hD v') (fun _ h => h) (hk v' he)
set_option maxRecDepth 100000 in
set_option maxHeartbeats 2000000 in
theorem cLPiece (w : World) (v : Value) (b : List Nat) (hb : RdB w v b) (f t : Nat) (hft : f < t) (ht : t ≤ b.length) (hn : b.length < 100000000) : Calls Try.prog 39 #[v, .int .i64 (f : Int), .int .i64 (t : Int)] w fun e w' => ∃ va vc, e = .returned (.agg (Fil.pieceQ f va ((b.drop f).take (t - f)) vc).cells) ∧ New w w' 5 (.slice va ((b.drop f).take (t - f)).length vc) (u8s ((b.drop f).take (t - f))) := by
  obtain ⟨a, cap, rfl, hx⟩ := hb.open
  obtain ⟨b0, off, rfl, -, -⟩ := hx 0 (by omega)
  obtain ⟨-, hcap1, hcap2⟩ := hb.1.cap
  have hsl : ∀ x : World, (Instr.slice 24 (.slice (some ⟨b0, off, none⟩) b.length cap) (some (.int .i64 (f : Int))) (some (.int .i64 (t : Int))) none).run Try.prog x = .ok (.slice (some ⟨b0, off + f, none⟩) (t - f) (cap - f)) x := fun x => Lib.run_slice_window x _ 5 Try.underlying24 (fun w => by first | rfl | simp [go_sem] | kernel_rfl) b0 off _ cap f t (by omega) (by omega)
  have hsub : ((b.drop f).take (t - f)).length = t - f := by simp; omega
  have HSB : Hid (∀ y, Below w.heap.size w y → Rd y (.slice (some ⟨b0, off + f, none⟩) (t - f) (cap - f)) (u8s ((b.drop f).take (t - f)))) := hid fun y hy => by
    have r1 := hb.1.below hy
    have r2 := r1.drop f (by rw [u8s_len]; omega) (some ⟨b0, off + f, none⟩) (cap - f) (by rw [u8s_len]; omega) (by rintro b' off' - e; injection e with e; injection e with e1 e2; subst e1; subst e2; rfl)
    have r3 := r2.take (t - f) (by rw [List.length_drop]; rw [u8s_len]; omega) (cap - f) (by omega)
    unfold u8s at r3 ⊢; rw [← List.map_drop, ← List.map_take] at r3; exact r3
  have HA : Hid (Sts w [blkP w.heap.size (.cells zeroPdu 45 (0, 0))] (w.alloc (.cells #[.int .i64 0, .int .i64 0, .int .i64 0, .int .i64 0, .string ⟨#[]⟩, .int .i64 0, .int .i64 0, .slice none 0 0, .int .u32 0, .int .i64 0, .slice none 0 0] 45))) := hid ((Sts.nil w).alloc stab0 (.cells zeroPdu 45 (0, 0)))
  have HEQ : Hid (∀ (u : Value) (z : World), True → ∀ (va : Option Addr) (vc : Nat), Sts w [rowP 5 1 (.slice va ([] ++ ((b.drop f).take (t - f))).length vc) ([] ++ ((b.drop f).take (t - f))).length (u8s ([] ++ ((b.drop f).take (t - f))))] z → New w z 5 (.slice va ((b.drop f).take (t - f)).length vc) (u8s ((b.drop f).take (t - f)))) := hid fun u z _ va vc h => by
    rw [List.nil_append] at h
    exact Sts.isNew h (u8s_len _)
  have HSL : Hid (t - f < 100000000) := hid (by omega)
  generalize (b.drop f).take (t - f) = sub at *
  rw [← hsub] at hsl HSB HSL
  clear hx hb hcap1 hcap2
  generalize hbl : b.length = bl at *
  clear hbl hsub
  go_enter Try.func39, Try.ntmps39
  go_wp2_with fail
  refine wp_region_ord (.pure 1 (.pure 3 (.pure 4 (.pure 5 (.pure 6 (.eff2 0 2 (.eff 2 (.eff 7 (.pure 8 (.eff 9 .nil)))) (.eff 0 (.eff 7 (.pure 8 (.eff 9 .nil)))))))))) (fun _ => True) (fun y => Sts w [blkP w.heap.size (.cells zeroPdu 45 (0, 0))] y) (by kernel_rfl) (by kernel_rfl) (HA.out.drew (stab1 (blkP_stable _ _))) (fun _ _ => trivial) ?_
  iterate 5
    (apply ord_pure (ho := rfl)
     · go_simp
     · intro x hx; go_simp; rfl
     apply ord_norm
     · go_simp; rfl)
  have mk : ∀ y, Sts w [blkP w.heap.size (.cells zeroPdu 45 (0, 0))] y → Sts w [rowP 5 1 (.slice (some ⟨y.heap.size, 0, none⟩) 0 0) ([] : List Nat).length (u8s []), blkP w.heap.size (.cells zeroPdu 45 (0, 0))] (y.alloc (.cells #[] 5)) := fun y hy =>
    (hy.alloc (stab1 (blkP_stable _ _)) (.cells #[] 5)).weaken (fun F h => blkP.row h (by simp))
  refine ord_eff2 ?_ ?_
  · apply ord_eff (ho := rfl)
    · go_simp
    intro y hy
    refine eff_call (f := 34) (by go_simp) (cLId y) ?_
    rintro e w2 ⟨rfl, hb2⟩
    refine ⟨_, rfl, (fun _ => True), (fun y => Sts w [blkP w.heap.size (.cells zeroPdu 45 (0, 0))] y), hy.quiet (stab1 (blkP_stable _ _)) hb2, (fun _ _ => trivial), (fun _ h => h), ?_⟩
    clear hb2 hy y
    apply ord_norm
    · go_simp; rfl
    apply ord_eff (ho := rfl)
    · go_simp
    intro y hy
    refine eff_value (fun _ => True) (fun z => Sts w [rowP 5 1 (.slice (some ⟨y.heap.size, 0, none⟩) 0 0) ([] : List Nat).length (u8s []), blkP w.heap.size (.cells zeroPdu 45 (0, 0))] z) (w := y.alloc (.cells #[] 5)) (v := .slice (some ⟨y.heap.size, 0, none⟩) 0 0) (by go_simp) (mk y hy) (fun _ _ => trivial) (fun _ h => h) ?_
    clear hy
    generalize y.heap.size = g
    apply ord_norm
    · go_simp; rfl
    apply ord_eff (ho := rfl)
    · go_simp
    intro y hy
    refine eff_appendB (l := []) (m := sub) hy (stab1 (blkP_stable _ _)) (.tmp 9) (.tmp 13) rfl rfl _ _ rfl (HSB.out y hy.below) (by have := HSL.out; simp; omega) (fun _ => True) (fun _ _ _ => trivial) ?_
    intro v' hv'
    obtain ⟨va, vc, hve⟩ := hv'
    subst hve
    clear hy y
    apply ord_norm
    · go_simp; rfl
    apply ord_pure (ho := rfl)
    · go_simp
    · intro x hx; go_simp; rfl
    apply ord_norm
    · go_simp; rfl
    apply ord_eff (ho := rfl)
    · go_simp
    intro y hy
    refine eff_agg hy.swap (stab1 (rowP_stable _ _ _ _ _)) (.tmp 6) (.tmp 15) 45 rfl (Fil.pieceQ f va sub vc).cells rfl rfl sizePdu rfl rfl (fun _ => True) (fun _ _ => trivial) ?_
    clear hy y
    apply ord_norm
    · go_simp; rfl
    refine ord_nil fun z hz => ?_
    have HF := hid hz
    clear hz
    go_wp2_with fail
    exact post_cell1 HF.out Try.results39 rfl rfl (ldPdu rfl HF.out) ⟨va, vc, rfl, HEQ.out (.bool true) _ trivial _ _ HF.out.tail⟩
  · apply ord_eff (ho := rfl)
    · go_simp
    intro y hy
    refine eff_value (fun _ => True) (fun z => Sts w [rowP 5 1 (.slice (some ⟨y.heap.size, 0, none⟩) 0 0) ([] : List Nat).length (u8s []), blkP w.heap.size (.cells zeroPdu 45 (0, 0))] z) (w := y.alloc (.cells #[] 5)) (v := .slice (some ⟨y.heap.size, 0, none⟩) 0 0) (by go_simp) (mk y hy) (fun _ _ => trivial) (fun _ h => h) ?_
    clear hy
    generalize y.heap.size = g
    apply ord_norm
    · go_simp; rfl
    apply ord_eff (ho := rfl)
    · go_simp
    intro y hy
    refine eff_call (f := 34) (by go_simp) (cLId y) ?_
    rintro e w2 ⟨rfl, hb2⟩
    refine ⟨_, rfl, (fun _ => True), (fun z => Sts w [rowP 5 1 (.slice (some ⟨g, 0, none⟩) 0 0) ([] : List Nat).length (u8s []), blkP w.heap.size (.cells zeroPdu 45 (0, 0))] z), hy.quiet (stabC (rowP_stable _ _ _ _ _) (stab1 (blkP_stable _ _))) hb2, (fun _ _ => trivial), (fun _ h => h), ?_⟩
    clear hb2 hy y
    apply ord_norm
    · go_simp; rfl
    apply ord_eff (ho := rfl)
    · go_simp
    intro y hy
    refine eff_appendB (l := []) (m := sub) hy (stab1 (blkP_stable _ _)) (.tmp 9) (.tmp 13) rfl rfl _ _ rfl (HSB.out y hy.below) (by have := HSL.out; simp; omega) (fun _ => True) (fun _ _ _ => trivial) ?_
    intro v' hv'
    obtain ⟨va, vc, hve⟩ := hv'
    subst hve
    clear hy y
    apply ord_norm
    · go_simp; rfl
    apply ord_pure (ho := rfl)
    · go_simp
    · intro x hx; go_simp; rfl
    apply ord_norm
    · go_simp; rfl
    apply ord_eff (ho := rfl)
    · go_simp
    intro y hy
    refine eff_agg hy.swap (stab1 (rowP_stable _ _ _ _ _)) (.tmp 6) (.tmp 15) 45 rfl (Fil.pieceQ f va sub vc).cells rfl rfl sizePdu rfl rfl (fun _ => True) (fun _ _ => trivial) ?_
    clear hy y
    apply ord_norm
    · go_simp; rfl
    refine ord_nil fun z hz => ?_
    have HF := hid hz
    clear hz
    go_wp2_with fail
    exact post_cell1 HF.out Try.results39 rfl rfl (ldPdu rfl HF.out) ⟨va, vc, rfl, HEQ.out (.bool true) _ trivial _ _ HF.out.tail⟩
set_option maxRecDepth 100000 in
set_option maxHeartbeats 2000000 in
theorem cLSame (w : World) (v1 v2 : Value) (m : List Rng.R) (h1 : RdR w v1 m) (h2 : RdR w v2 m) (hn : m.length < 1000000) : Calls Try.prog 47 #[v1, v2] w fun e w' => e = .returned (.bool true) ∧ Below w.heap.size w w' := by
  obtain ⟨a1, c1, rfl, _, hx1⟩ := h1
  obtain ⟨a2, c2, rfl, _, hx2⟩ := h2
  have HX1 := hid hx1
  have HX2 := hid hx2
  have hne : ((m.length : Int) != (m.length : Int)) = false := by simp
  clear hx1 hx2
  go_enter Try.func47, Try.ntmps47
  go_wp2_with fail
  clear hne
  go_loopw [5] (fun i wr => ∃ k : Nat, k ≤ m.length ∧ i = .int .i64 k ∧ Below w.heap.size w wr) (fun i _ => m.length - (intOf i).toNat)
  case atStart => exact ⟨0, by omega, rfl, Below.refl _ _⟩
  case round =>
    obtain ⟨k, hk, rfl, hb⟩ := hrel
    have HB := hid hb
    clear hb
    by_cases hlt : k < m.length
    · obtain ⟨b1, o1, e1, hb1, x0, x1⟩ := HX1.out k hlt
      obtain ⟨b2, o2, e2, hb2, y0, y1⟩ := HX2.out k hlt
      subst e1
      subst e2
      have p0 := HB.out.cell (p := ⟨b1, o1 + k * 2, none⟩) hb1
      have p1 := HB.out.cell (p := ⟨b1, o1 + k * 2 + 1, none⟩) hb1
      have p2 := HB.out.cell (p := ⟨b2, o2 + k * 2, none⟩) hb2
      have p3 := HB.out.cell (p := ⟨b2, o2 + k * 2 + 1, none⟩) hb2
      rw [x0] at p0
      rw [x1] at p1
      rw [y0] at p2
      rw [y1] at p3
      have HXX1 := HX1
      clear x0 x1 y0 y1
      generalize m[k] = r at *
      obtain ⟨r1, r2⟩ := r
      simp only [] at p0 p1 p2 p3
      go_wp2_with fail
      go_quiet (fail)
      go_wp2_with fail
      go_roundw
      case rel => exact ⟨k + 1, by omega, by go_num, below_drewN HB.out _⟩
      case measure => simp [intOf]; omega
    · obtain rfl : k = m.length := by omega
      go_wp2_with fail
      go_ret
      exact ⟨rfl, HB.out⟩
set_option maxRecDepth 100000 in
set_option maxHeartbeats 2000000 in
theorem cLMissing (w : World) (v : Value) (m : List Rng.R) (h : RdR w v m) (hn : m.length < 400000) (t : Nat) (ht : t ≤ 100000) (hin : ∀ r ∈ m, 0 ≤ r.1 ∧ r.2 ≤ t) : Calls Try.prog 46 #[v, .int .i64 (t : Int)] w fun e w' => ∃ r, e = .returned r ∧ NewR w w' r (Rng.missV m t) := by
  have hlen : ∀ k, ((m.take k).foldl Rng.remV (Rng.ofV [((0 : Int), (t : Int))])).length ≤ t := fun k => by
    obtain ⟨i1, i2⟩ := Rng.foldRem_mem (m.take k) (Rng.ofV [((0 : Int), (t : Int))]) (Rng.ofV_spec _).1
    have := Rng.valid_len' i1 (b := t) (by omega) (fun x hx => by
      have h3 := ((Rng.ofV_spec _).2 x).1 ((i2 x).1 hx).1
      obtain ⟨r, hr, h4⟩ := h3
      simp at hr; subst hr; exact h4)
    omega
  have HLEN := hid hlen
  have HR0 := hid h
  obtain ⟨a, c, rfl, _, hx⟩ := h
  have HX := hid hx
  have HEQ : Hid (m.foldl Rng.remV (Rng.ofV [((0 : Int), (t : Int))]) = Rng.missV m t) := hid (by
    obtain ⟨i1, i2⟩ := Rng.foldRem_mem m (Rng.ofV [((0 : Int), (t : Int))]) (Rng.ofV_spec _).1
    obtain ⟨j1, j2⟩ := Rng.missV_mem m t
    refine Rng.uniq i1 j1 fun x => ?_
    rw [i2, j2, (Rng.ofV_spec _).2, Rng.mem_cons]
    constructor
    · rintro ⟨h1 | h1, h2⟩
      · exact ⟨h1, h2⟩
      · exact absurd h1 Rng.mem_nil
    · rintro ⟨h1, h2⟩; exact ⟨Or.inl h1, h2⟩)
  clear hx hlen hin
  have HONE := hid (rdR_one w 0 (t : Int))
  go_enter Try.func46, Try.ntmps46
  go_wp2_with fail
  refine (cOf _ _ [((0 : Int), (t : Int))] HONE.out (by simp)).mono ?_
  rintro e w1 ⟨r, rfl, hN⟩
  have HN := hid (hN.of ((Below.refl w.heap.size w).alloc (Nat.le_refl _) _))
  clear hN
  go_wp2_with fail
  go_loopw [5, 6] (fun rv i wr => ∃ k : Nat, k ≤ m.length ∧ i = .int .i64 k ∧ NewR w wr rv ((m.take k).foldl Rng.remV (Rng.ofV [((0 : Int), (t : Int))]))) (fun rv i _ => m.length - (intOf i).toNat)
  case atStart => exact ⟨0, by omega, rfl, HN.out⟩
  case round =>
    obtain ⟨k, hk, rfl, hb⟩ := hrel
    have HB := hid hb
    clear hb HN
    by_cases hlt : k < m.length
    · obtain ⟨b1, o1, e1, hb1, x0, x1⟩ := HX.out k hlt
      subst e1
      have p0 := HB.out.below.cell (p := ⟨b1, o1 + k * 2, none⟩) hb1
      have p1 := HB.out.below.cell (p := ⟨b1, o1 + k * 2 + 1, none⟩) hb1
      rw [x0] at p0
      rw [x1] at p1
      have HST : Hid ((m.take (k + 1)).foldl Rng.remV (Rng.ofV [((0 : Int), (t : Int))]) = Rng.remV ((m.take k).foldl Rng.remV (Rng.ofV [((0 : Int), (t : Int))])) (m[k]'hlt)) := hid (by
        rw [List.take_add_one, List.getElem?_eq_getElem hlt, List.foldl_append]; rfl)
      clear x0 x1
      generalize m[k] = r at *
      obtain ⟨r1, r2⟩ := r
      simp only [] at p0 p1
      go_wp2_with fail
      refine (cRefRemove _ _ _ r1 r2 HB.out.rd (by have := HLEN.out k; omega)).mono ?_
      rintro e w3 ⟨r9, rfl, hN⟩
      have HN3 := hid (hN.of HB.out.below)
      clear hN
      go_wp2_with fail
      go_roundw
      case rel => exact ⟨k + 1, by omega, by go_num, by rw [HST.out]; exact HN3.out⟩
      case measure => simp [intOf]; omega
    · obtain rfl : k = m.length := by omega
      go_wp2_with fail
      go_ret
      refine ⟨_, rfl, ?_⟩
      have h := HB.out
      rw [List.take_length, HEQ.out] at h
      exact h
end Go.Proofs.Ytfjadhkhmhnccaa
