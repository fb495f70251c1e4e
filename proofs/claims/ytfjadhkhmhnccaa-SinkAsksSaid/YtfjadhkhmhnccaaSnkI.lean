/- The receiving end: Next. -/
import Derived.Test.YtfjadhkhmhnccaaSnkH
import Derived.Test.YtfjadhkhmhnccaaRefOf
set_option linter.unusedVariables false
set_option linter.unusedSimpArgs false
namespace Fil
open Go
/-- Behind the timer. -/
def Snk.sendV (s : Snk) : Snk × Option Pdu :=
  if s.phase = 2 ∨ s.phase = 3 then (s.repV.1, if s.repV.2 = true then some s.reportP else none)
  else if s.phase ≠ 0 ∨ s.nak = false then (s, none)
  else ({ s with nak := false }, some { kind := 4, src := s.src, num := s.num, gaps := s.gapsV })
def Snk.nextV (s : Snk) (now : Int) : Snk × Option Pdu :=
  if (s.adv now).susp = true then (s.adv now, none)
  else if (s.adv now).ack = true then ({ s.adv now with ack := false }, some ((s.adv now).unitP 6))
  else (s.adv now).tickV.sendV
theorem take16_a (g0 M : List Rng.R) (k : Nat) (hk : k < M.length) (h : ((g0 ++ M.take k).take 16).length < 16) : (g0 ++ M.take (k + 1)).take 16 = (g0 ++ M.take k).take 16 ++ [M[k]] := by
  have h1 : (g0 ++ M.take k).length < 16 := by rw [List.length_take] at h; omega
  have e : M.take (k + 1) = M.take k ++ [M[k]] := by rw [List.take_add_one, List.getElem?_eq_getElem hk]; rfl
  rw [e, ← List.append_assoc, List.take_of_length_le (by omega : (g0 ++ M.take k).length ≤ 16), List.take_of_length_le]
  rw [List.length_append]; simp only [List.length_cons, List.length_nil]; omega
theorem take16_b (g0 M : List Rng.R) (k : Nat) (h : ¬ ((g0 ++ M.take k).take 16).length < 16) : (g0 ++ M.take (k + 1)).take 16 = (g0 ++ M.take k).take 16 := by
  have h1 : 16 ≤ (g0 ++ M.take k).length := by rw [List.length_take] at h; omega
  have e : M.take (k + 1) = M.take k ++ M[k]?.toList := List.take_add_one
  rw [e, ← List.append_assoc, List.take_append_of_le_length h1]
end Fil
namespace Go.Proofs.Ytfjadhkhmhnccaa
open Go.RowKit Go.Proofs.Num
theorem ldRng {W w : World} {l : List HProp} {b : Nat} {cs : Array Value} (hs : cs.size = 2) (h : Sts W (blkP b (.cells cs 81 (0, 0)) :: l) w) : (loadVar 81 ⟨b, 0, none⟩).run Try.prog w = .ok (.agg cs) w := by
  have hb : w.heap[b]? = some (.cells cs 81 (0, 0)) := by obtain ⟨F, hF⟩ := h.head; exact hF.1
  exact run_loadVar_row (P := Try.prog) w b 81 81 cs (0, 0) _ hb Try.underlying81 rfl (by obtain ⟨i0, hi, hz0, hz1, hz2⟩ := info_parts infoR; rw [hi, hs]; simp [hz1])
section
variable {W w : World} {l : List HProp} (hl : ∀ B ∈ l, Stable B) (q : Nat) (s s1 : Fil.Snk) (hs : Sts W (snkP q s :: l) w) (now : Int) (hp1 : s.adv now = s1)
include hl hs hp1
set_option maxRecDepth 100000 in
set_option maxHeartbeats 4000000 in
theorem cNxtSusp (c1 : s1.susp = true) : Calls Try.prog 44 #[.pointer (some ⟨q, 0, none⟩), .int .i64 now] w fun e w' => e = .returned (.tuple #[.agg zeroPdu, .bool false]) ∧ Sts W (snkP q s1 :: l) w' := by
  have hls : ∀ B ∈ snkP q s :: l, Stable B := stabC (snkP_stable _ _) hl
  have hz : Sts W (blkP w.heap.size (.cells zeroPdu 45 (0, 0)) :: snkP q s :: l) (w.alloc (.cells #[.int .i64 0, .int .i64 0, .int .i64 0, .int .i64 0, .string ⟨#[]⟩, .int .i64 0, .int .i64 0, .slice none 0 0, .int .u32 0, .int .i64 0, .slice none 0 0] 45)) := hs.alloc hls (.cells zeroPdu 45 (0, 0))
  have hbl : ∀ B ∈ blkP w.heap.size (.cells zeroPdu 45 (0, 0)) :: l, Stable B := stabC (blkP_stable _ _) hl
  have hP := cAdv hbl q s hz.swap now
  rw [hp1] at hP
  have HP := hid hP
  have hk0 : (w.alloc (.cells #[.int .i64 0, .int .i64 0, .int .i64 0, .int .i64 0, .string ⟨#[]⟩, .int .i64 0, .int .i64 0, .slice none 0 0, .int .u32 0, .int .i64 0, .slice none 0 0] 45)).cell? ⟨q, 0, none⟩ = some (.bool true) := by obtain ⟨dv, gv, h⟩ := Sts.openSnk hz.swap; exact (Sts.snkC h).k0
  have HVL := hid (cVal _ q hk0)
  have HL := hid hl
  clear hP hz hs hls hbl hl hk0 hp1
  go_enter Try.func44, Try.ntmps44
  go_wp2_with (first | (go_at_call 81; refine HVL.out.mono ?_; rintro e w2 ⟨rfl, rfl⟩) | (go_at_call 82; refine HP.out.mono ?_; rintro e w1 ⟨rfl, h1⟩; have HO := hid h1; obtain ⟨dv, gv, h⟩ := Sts.openSnk h1; have HS := hid h; have HSN : Hid (∀ n, Sts W (blkP q (.cells (s1.cells dv gv) 109 (0, 0)) :: rowP 5 1 dv (s1).data.length (u8s (s1).data) :: rowP 81 2 gv (s1).got.length (Fil.rcells (s1).got) :: blkP w.heap.size (.cells zeroPdu 45 (0, 0)) :: l) (w1.drewN n)) := hid (fun n => h.quiet (stabC (blkP_stable _ _) (stabC (rowP_stable _ _ _ _ _) (stabC (rowP_stable _ _ _ _ _) (stabC (blkP_stable _ _) HL.out)))) (below_drewN (Below.refl _ _) n)); have HON : Hid (∀ n, Sts W (snkP q s1 :: blkP w.heap.size (.cells zeroPdu 45 (0, 0)) :: l) (w1.drewN n)) := hid (fun n => h1.quiet (stabC (snkP_stable _ _) (stabC (blkP_stable _ _) HL.out)) (below_drewN (Below.refl _ _) n)); have hC := Sts.snkC h; have k10 := hC.k10; (try dsimp only at k10); rw [c1] at k10; clear hC h h1) | (refine wpList_agg HO.out.swap (stabC (snkP_stable _ _) HL.out) rfl (.tmp 4) (.tmp 20) 45 rfl zeroPdu rfl rfl sizePdu rfl rfl ?_; intro w9 hz; have HF := hid hz; clear hz))
  exact post_cell2 HF.out Try.results44 rfl rfl (ldPdu rfl HF.out) (.bool false) rfl ⟨rfl, HF.out.tail⟩
set_option maxRecDepth 100000 in
set_option maxHeartbeats 4000000 in
theorem cNxtAck (c1 : s1.susp = false) (c2 : s1.ack = true) : Calls Try.prog 44 #[.pointer (some ⟨q, 0, none⟩), .int .i64 now] w fun e w' => e = .returned (.tuple #[.agg (s1.unitP 6).cells, .bool true]) ∧ Sts W (snkP q { s1 with ack := false } :: l) w' := by
  have hls : ∀ B ∈ snkP q s :: l, Stable B := stabC (snkP_stable _ _) hl
  have hz : Sts W (blkP w.heap.size (.cells zeroPdu 45 (0, 0)) :: snkP q s :: l) (w.alloc (.cells #[.int .i64 0, .int .i64 0, .int .i64 0, .int .i64 0, .string ⟨#[]⟩, .int .i64 0, .int .i64 0, .slice none 0 0, .int .u32 0, .int .i64 0, .slice none 0 0] 45)) := hs.alloc hls (.cells zeroPdu 45 (0, 0))
  have hbl : ∀ B ∈ blkP w.heap.size (.cells zeroPdu 45 (0, 0)) :: l, Stable B := stabC (blkP_stable _ _) hl
  have hP := cAdv hbl q s hz.swap now
  rw [hp1] at hP
  have HP := hid hP
  have hk0 : (w.alloc (.cells #[.int .i64 0, .int .i64 0, .int .i64 0, .int .i64 0, .string ⟨#[]⟩, .int .i64 0, .int .i64 0, .slice none 0 0, .int .u32 0, .int .i64 0, .slice none 0 0] 45)).cell? ⟨q, 0, none⟩ = some (.bool true) := by obtain ⟨dv, gv, h⟩ := Sts.openSnk hz.swap; exact (Sts.snkC h).k0
  have HVL := hid (cVal _ q hk0)
  have HL := hid hl
  clear hP hz hs hls hbl hl hk0 hp1
  go_enter Try.func44, Try.ntmps44
  go_wp2_with (first | (go_at_call 81; refine HVL.out.mono ?_; rintro e w2 ⟨rfl, rfl⟩) | (go_at_call 82; refine HP.out.mono ?_; rintro e w1 ⟨rfl, h1⟩; have HO := hid h1; obtain ⟨dv, gv, h⟩ := Sts.openSnk h1; have HS := hid h; have HSN : Hid (∀ n, Sts W (blkP q (.cells (s1.cells dv gv) 109 (0, 0)) :: rowP 5 1 dv (s1).data.length (u8s (s1).data) :: rowP 81 2 gv (s1).got.length (Fil.rcells (s1).got) :: blkP w.heap.size (.cells zeroPdu 45 (0, 0)) :: l) (w1.drewN n)) := hid (fun n => h.quiet (stabC (blkP_stable _ _) (stabC (rowP_stable _ _ _ _ _) (stabC (rowP_stable _ _ _ _ _) (stabC (blkP_stable _ _) HL.out)))) (below_drewN (Below.refl _ _) n)); have HON : Hid (∀ n, Sts W (snkP q s1 :: blkP w.heap.size (.cells zeroPdu 45 (0, 0)) :: l) (w1.drewN n)) := hid (fun n => h1.quiet (stabC (snkP_stable _ _) (stabC (blkP_stable _ _) HL.out)) (below_drewN (Below.refl _ _) n)); have hC := Sts.snkC h; have k10 := hC.k10; have k21 := hC.k21; (try dsimp only at k10 k21); rw [c1] at k10; rw [c2] at k21; clear hC h h1) | (refine wpList_cell HS.out (stabC (rowP_stable _ _ _ _ _) (stabC (rowP_stable _ _ _ _ _) (stabC (blkP_stable _ _) HL.out))) rfl (.tmp 27) (.const (.bool false)) 4 rfl 21 (.bool false) rfl rfl szBoolK (show 21 < 25 by decide) rfl ?_; intro w3 hz; replace hz : Sts W (blkP q (.cells (({ s1 with ack := false }).cells dv gv) 109 (0, 0)) :: rowP 5 1 dv (s1).data.length (u8s (s1).data) :: rowP 81 2 gv (s1).got.length (Fil.rcells (s1).got) :: blkP w.heap.size (.cells zeroPdu 45 (0, 0)) :: l) w3 := hz; have H1 := hid hz; have HU := hid (cUnitK (stabC (blkP_stable _ _) HL.out) q { s1 with ack := false } (Sts.shutSnk (s := { s1 with ack := false }) (dv := dv) (gv := gv) hz) 6); clear hz) | (go_at_call 89; refine HU.out.mono ?_; rintro e w4 ⟨rfl, hw⟩; have H2 := hid hw.swap; clear hw) | (refine wpList_agg H2.out (stabC (snkP_stable _ _) HL.out) rfl (.tmp 4) (.tmp 29) 45 rfl (s1.unitP 6).cells rfl rfl sizePdu rfl rfl ?_; intro w9 hz; have HF := hid hz; clear hz))
  exact post_cell2 HF.out Try.results44 rfl rfl (ldPdu rfl HF.out) (.bool true) rfl ⟨rfl, HF.out.tail⟩
set_option maxRecDepth 100000 in
set_option maxHeartbeats 4000000 in
theorem cNxtRep2 (c1 : s1.susp = false) (c2 : s1.ack = false) (hT : 0 ≤ s1.timer + s1.timeout ∧ s1.timer + s1.timeout < 4611686018427387904) (hy : 0 ≤ s1.tries ∧ s1.tries < 1000000) (c8 : s1.phase = 2) : Calls Try.prog 44 #[.pointer (some ⟨q, 0, none⟩), .int .i64 now] w fun e w' => e = .returned (.tuple #[.agg s1.repP.cells, .bool s1.repV.2]) ∧ Sts W (snkP q s1.repV.1 :: l) w' := by
  have hwr : IntKind.i64.wrap (s1.timer + s1.timeout) = s1.timer + s1.timeout := by rw [IntKind.wrap_i64]; omega
  have hls : ∀ B ∈ snkP q s :: l, Stable B := stabC (snkP_stable _ _) hl
  have hz : Sts W (blkP w.heap.size (.cells zeroPdu 45 (0, 0)) :: snkP q s :: l) (w.alloc (.cells #[.int .i64 0, .int .i64 0, .int .i64 0, .int .i64 0, .string ⟨#[]⟩, .int .i64 0, .int .i64 0, .slice none 0 0, .int .u32 0, .int .i64 0, .slice none 0 0] 45)) := hs.alloc hls (.cells zeroPdu 45 (0, 0))
  have hbl : ∀ B ∈ blkP w.heap.size (.cells zeroPdu 45 (0, 0)) :: l, Stable B := stabC (blkP_stable _ _) hl
  have hP := cAdv hbl q s hz.swap now
  rw [hp1] at hP
  have HP := hid hP
  have hk0 : (w.alloc (.cells #[.int .i64 0, .int .i64 0, .int .i64 0, .int .i64 0, .string ⟨#[]⟩, .int .i64 0, .int .i64 0, .slice none 0 0, .int .u32 0, .int .i64 0, .slice none 0 0] 45)).cell? ⟨q, 0, none⟩ = some (.bool true) := by obtain ⟨dv, gv, h⟩ := Sts.openSnk hz.swap; exact (Sts.snkC h).k0
  have HVL := hid (cVal _ q hk0)
  have HL := hid hl
  clear hP hz hs hls hbl hl hk0 hp1
  have HTT := hid hT
  have HYY := hid hy
  clear hT hy
  go_enter Try.func44, Try.ntmps44
  go_wp2_with (first | (go_at_call 81; refine HVL.out.mono ?_; rintro e w2 ⟨rfl, rfl⟩) | (go_at_call 82; refine HP.out.mono ?_; rintro e w1 ⟨rfl, h1⟩; have HO := hid h1; obtain ⟨dv, gv, h⟩ := Sts.openSnk h1; have HS := hid h; have HSN : Hid (∀ n, Sts W (blkP q (.cells (s1.cells dv gv) 109 (0, 0)) :: rowP 5 1 dv (s1).data.length (u8s (s1).data) :: rowP 81 2 gv (s1).got.length (Fil.rcells (s1).got) :: blkP w.heap.size (.cells zeroPdu 45 (0, 0)) :: l) (w1.drewN n)) := hid (fun n => h.quiet (stabC (blkP_stable _ _) (stabC (rowP_stable _ _ _ _ _) (stabC (rowP_stable _ _ _ _ _) (stabC (blkP_stable _ _) HL.out)))) (below_drewN (Below.refl _ _) n)); have HON : Hid (∀ n, Sts W (snkP q s1 :: blkP w.heap.size (.cells zeroPdu 45 (0, 0)) :: l) (w1.drewN n)) := hid (fun n => h1.quiet (stabC (snkP_stable _ _) (stabC (blkP_stable _ _) HL.out)) (below_drewN (Below.refl _ _) n)); have hC := Sts.snkC h; have k5 := hC.k5; have k7 := hC.k7; have k8 := hC.k8; have k10 := hC.k10; have k19 := hC.k19; have k21 := hC.k21; (try dsimp only at k5 k7 k8 k10 k19 k21); rw [c1] at k10; rw [c2] at k21; rw [c8] at k8; clear hC h h1))
  go_quiet (fail)
  go_wp2_with (first | (go_at_call 92; refine (cRepK (stabC (blkP_stable _ _) HL.out) q s1 (HON.out _) HTT.out HYY.out).mono ?_; rintro e w6 ⟨rfl, hw⟩; have H5 := hid hw.swap; clear hw) | (refine wpList_agg H5.out (stabC (snkP_stable _ _) HL.out) rfl (.tmp 4) (.tmp 109) 45 rfl s1.repP.cells rfl rfl sizePdu rfl rfl ?_; intro w9 hz; have HF := hid hz; clear hz))
  exact post_cell2 HF.out Try.results44 rfl rfl (ldPdu rfl HF.out) (.bool s1.repV.2) rfl ⟨rfl, HF.out.tail⟩
set_option maxRecDepth 100000 in
set_option maxHeartbeats 4000000 in
theorem cNxtRep3 (c1 : s1.susp = false) (c2 : s1.ack = false) (hT : 0 ≤ s1.timer + s1.timeout ∧ s1.timer + s1.timeout < 4611686018427387904) (hy : 0 ≤ s1.tries ∧ s1.tries < 1000000) (c8 : s1.phase = 3) : Calls Try.prog 44 #[.pointer (some ⟨q, 0, none⟩), .int .i64 now] w fun e w' => e = .returned (.tuple #[.agg s1.repP.cells, .bool s1.repV.2]) ∧ Sts W (snkP q s1.repV.1 :: l) w' := by
  have hwr : IntKind.i64.wrap (s1.timer + s1.timeout) = s1.timer + s1.timeout := by rw [IntKind.wrap_i64]; omega
  have hls : ∀ B ∈ snkP q s :: l, Stable B := stabC (snkP_stable _ _) hl
  have hz : Sts W (blkP w.heap.size (.cells zeroPdu 45 (0, 0)) :: snkP q s :: l) (w.alloc (.cells #[.int .i64 0, .int .i64 0, .int .i64 0, .int .i64 0, .string ⟨#[]⟩, .int .i64 0, .int .i64 0, .slice none 0 0, .int .u32 0, .int .i64 0, .slice none 0 0] 45)) := hs.alloc hls (.cells zeroPdu 45 (0, 0))
  have hbl : ∀ B ∈ blkP w.heap.size (.cells zeroPdu 45 (0, 0)) :: l, Stable B := stabC (blkP_stable _ _) hl
  have hP := cAdv hbl q s hz.swap now
  rw [hp1] at hP
  have HP := hid hP
  have hk0 : (w.alloc (.cells #[.int .i64 0, .int .i64 0, .int .i64 0, .int .i64 0, .string ⟨#[]⟩, .int .i64 0, .int .i64 0, .slice none 0 0, .int .u32 0, .int .i64 0, .slice none 0 0] 45)).cell? ⟨q, 0, none⟩ = some (.bool true) := by obtain ⟨dv, gv, h⟩ := Sts.openSnk hz.swap; exact (Sts.snkC h).k0
  have HVL := hid (cVal _ q hk0)
  have HL := hid hl
  clear hP hz hs hls hbl hl hk0 hp1
  have HTT := hid hT
  have HYY := hid hy
  clear hT hy
  go_enter Try.func44, Try.ntmps44
  go_wp2_with (first | (go_at_call 81; refine HVL.out.mono ?_; rintro e w2 ⟨rfl, rfl⟩) | (go_at_call 82; refine HP.out.mono ?_; rintro e w1 ⟨rfl, h1⟩; have HO := hid h1; obtain ⟨dv, gv, h⟩ := Sts.openSnk h1; have HS := hid h; have HSN : Hid (∀ n, Sts W (blkP q (.cells (s1.cells dv gv) 109 (0, 0)) :: rowP 5 1 dv (s1).data.length (u8s (s1).data) :: rowP 81 2 gv (s1).got.length (Fil.rcells (s1).got) :: blkP w.heap.size (.cells zeroPdu 45 (0, 0)) :: l) (w1.drewN n)) := hid (fun n => h.quiet (stabC (blkP_stable _ _) (stabC (rowP_stable _ _ _ _ _) (stabC (rowP_stable _ _ _ _ _) (stabC (blkP_stable _ _) HL.out)))) (below_drewN (Below.refl _ _) n)); have HON : Hid (∀ n, Sts W (snkP q s1 :: blkP w.heap.size (.cells zeroPdu 45 (0, 0)) :: l) (w1.drewN n)) := hid (fun n => h1.quiet (stabC (snkP_stable _ _) (stabC (blkP_stable _ _) HL.out)) (below_drewN (Below.refl _ _) n)); have hC := Sts.snkC h; have k5 := hC.k5; have k7 := hC.k7; have k8 := hC.k8; have k10 := hC.k10; have k19 := hC.k19; have k21 := hC.k21; (try dsimp only at k5 k7 k8 k10 k19 k21); rw [c1] at k10; rw [c2] at k21; rw [c8] at k8; clear hC h h1))
  go_quiet (fail)
  go_wp2_with (first | (go_at_call 92; refine (cRepK (stabC (blkP_stable _ _) HL.out) q s1 (HON.out _) HTT.out HYY.out).mono ?_; rintro e w6 ⟨rfl, hw⟩; have H5 := hid hw.swap; clear hw) | (refine wpList_agg H5.out (stabC (snkP_stable _ _) HL.out) rfl (.tmp 4) (.tmp 109) 45 rfl s1.repP.cells rfl rfl sizePdu rfl rfl ?_; intro w9 hz; have HF := hid hz; clear hz))
  exact post_cell2 HF.out Try.results44 rfl rfl (ldPdu rfl HF.out) (.bool s1.repV.2) rfl ⟨rfl, HF.out.tail⟩
set_option maxRecDepth 100000 in
set_option maxHeartbeats 4000000 in
theorem cNxtIdle (c1 : s1.susp = false) (c2 : s1.ack = false) (hT : 0 ≤ s1.timer + s1.timeout ∧ s1.timer + s1.timeout < 4611686018427387904) (b0 : (s1.phase == 0) = false) (b2 : (s1.phase == 2) = false) (b3 : (s1.phase == 3) = false) : Calls Try.prog 44 #[.pointer (some ⟨q, 0, none⟩), .int .i64 now] w fun e w' => e = .returned (.tuple #[.agg zeroPdu, .bool false]) ∧ Sts W (snkP q s1 :: l) w' := by
  have hwr : IntKind.i64.wrap (s1.timer + s1.timeout) = s1.timer + s1.timeout := by rw [IntKind.wrap_i64]; omega
  have hls : ∀ B ∈ snkP q s :: l, Stable B := stabC (snkP_stable _ _) hl
  have hz : Sts W (blkP w.heap.size (.cells zeroPdu 45 (0, 0)) :: snkP q s :: l) (w.alloc (.cells #[.int .i64 0, .int .i64 0, .int .i64 0, .int .i64 0, .string ⟨#[]⟩, .int .i64 0, .int .i64 0, .slice none 0 0, .int .u32 0, .int .i64 0, .slice none 0 0] 45)) := hs.alloc hls (.cells zeroPdu 45 (0, 0))
  have hbl : ∀ B ∈ blkP w.heap.size (.cells zeroPdu 45 (0, 0)) :: l, Stable B := stabC (blkP_stable _ _) hl
  have hP := cAdv hbl q s hz.swap now
  rw [hp1] at hP
  have HP := hid hP
  have hk0 : (w.alloc (.cells #[.int .i64 0, .int .i64 0, .int .i64 0, .int .i64 0, .string ⟨#[]⟩, .int .i64 0, .int .i64 0, .slice none 0 0, .int .u32 0, .int .i64 0, .slice none 0 0] 45)).cell? ⟨q, 0, none⟩ = some (.bool true) := by obtain ⟨dv, gv, h⟩ := Sts.openSnk hz.swap; exact (Sts.snkC h).k0
  have HVL := hid (cVal _ q hk0)
  have HL := hid hl
  clear hP hz hs hls hbl hl hk0 hp1
  have b0' : (s1.phase != 0) = true := by simpa using b0
  clear hT
  go_enter Try.func44, Try.ntmps44
  go_wp2_with (first | (go_at_call 81; refine HVL.out.mono ?_; rintro e w2 ⟨rfl, rfl⟩) | (go_at_call 82; refine HP.out.mono ?_; rintro e w1 ⟨rfl, h1⟩; have HO := hid h1; obtain ⟨dv, gv, h⟩ := Sts.openSnk h1; have HS := hid h; have HSN : Hid (∀ n, Sts W (blkP q (.cells (s1.cells dv gv) 109 (0, 0)) :: rowP 5 1 dv (s1).data.length (u8s (s1).data) :: rowP 81 2 gv (s1).got.length (Fil.rcells (s1).got) :: blkP w.heap.size (.cells zeroPdu 45 (0, 0)) :: l) (w1.drewN n)) := hid (fun n => h.quiet (stabC (blkP_stable _ _) (stabC (rowP_stable _ _ _ _ _) (stabC (rowP_stable _ _ _ _ _) (stabC (blkP_stable _ _) HL.out)))) (below_drewN (Below.refl _ _) n)); have HON : Hid (∀ n, Sts W (snkP q s1 :: blkP w.heap.size (.cells zeroPdu 45 (0, 0)) :: l) (w1.drewN n)) := hid (fun n => h1.quiet (stabC (snkP_stable _ _) (stabC (blkP_stable _ _) HL.out)) (below_drewN (Below.refl _ _) n)); have hC := Sts.snkC h; have k5 := hC.k5; have k7 := hC.k7; have k8 := hC.k8; have k10 := hC.k10; have k19 := hC.k19; have k21 := hC.k21; (try dsimp only at k5 k7 k8 k10 k19 k21); rw [c1] at k10; rw [c2] at k21; clear hC h h1))
  go_quiet (fail)
  go_wp2_with (first | (refine wpList_agg (HON.out _).swap (stabC (snkP_stable _ _) HL.out) rfl (.tmp 4) (.tmp 123) 45 rfl zeroPdu rfl rfl sizePdu rfl rfl ?_; intro w9 hz; have HF := hid hz; clear hz))
  exact post_cell2 HF.out Try.results44 rfl rfl (ldPdu rfl HF.out) (.bool false) rfl ⟨rfl, HF.out.tail⟩
set_option maxRecDepth 100000 in
set_option maxHeartbeats 4000000 in
theorem cNxtZero (c1 : s1.susp = false) (c2 : s1.ack = false) (hT : 0 ≤ s1.timer + s1.timeout ∧ s1.timer + s1.timeout < 4611686018427387904) (c8 : s1.phase = 0) (ht : decide (s1.timer + s1.timeout ≤ s1.now) = false) (c22 : s1.nak = false) : Calls Try.prog 44 #[.pointer (some ⟨q, 0, none⟩), .int .i64 now] w fun e w' => e = .returned (.tuple #[.agg zeroPdu, .bool false]) ∧ Sts W (snkP q s1 :: l) w' := by
  have hwr : IntKind.i64.wrap (s1.timer + s1.timeout) = s1.timer + s1.timeout := by rw [IntKind.wrap_i64]; omega
  have hls : ∀ B ∈ snkP q s :: l, Stable B := stabC (snkP_stable _ _) hl
  have hz : Sts W (blkP w.heap.size (.cells zeroPdu 45 (0, 0)) :: snkP q s :: l) (w.alloc (.cells #[.int .i64 0, .int .i64 0, .int .i64 0, .int .i64 0, .string ⟨#[]⟩, .int .i64 0, .int .i64 0, .slice none 0 0, .int .u32 0, .int .i64 0, .slice none 0 0] 45)) := hs.alloc hls (.cells zeroPdu 45 (0, 0))
  have hbl : ∀ B ∈ blkP w.heap.size (.cells zeroPdu 45 (0, 0)) :: l, Stable B := stabC (blkP_stable _ _) hl
  have hP := cAdv hbl q s hz.swap now
  rw [hp1] at hP
  have HP := hid hP
  have hk0 : (w.alloc (.cells #[.int .i64 0, .int .i64 0, .int .i64 0, .int .i64 0, .string ⟨#[]⟩, .int .i64 0, .int .i64 0, .slice none 0 0, .int .u32 0, .int .i64 0, .slice none 0 0] 45)).cell? ⟨q, 0, none⟩ = some (.bool true) := by obtain ⟨dv, gv, h⟩ := Sts.openSnk hz.swap; exact (Sts.snkC h).k0
  have HVL := hid (cVal _ q hk0)
  have HL := hid hl
  clear hP hz hs hls hbl hl hk0 hp1
  clear hT
  go_enter Try.func44, Try.ntmps44
  go_wp2_with (first | (go_at_call 81; refine HVL.out.mono ?_; rintro e w2 ⟨rfl, rfl⟩) | (go_at_call 82; refine HP.out.mono ?_; rintro e w1 ⟨rfl, h1⟩; have HO := hid h1; obtain ⟨dv, gv, h⟩ := Sts.openSnk h1; have HS := hid h; have HSN : Hid (∀ n, Sts W (blkP q (.cells (s1.cells dv gv) 109 (0, 0)) :: rowP 5 1 dv (s1).data.length (u8s (s1).data) :: rowP 81 2 gv (s1).got.length (Fil.rcells (s1).got) :: blkP w.heap.size (.cells zeroPdu 45 (0, 0)) :: l) (w1.drewN n)) := hid (fun n => h.quiet (stabC (blkP_stable _ _) (stabC (rowP_stable _ _ _ _ _) (stabC (rowP_stable _ _ _ _ _) (stabC (blkP_stable _ _) HL.out)))) (below_drewN (Below.refl _ _) n)); have HON : Hid (∀ n, Sts W (snkP q s1 :: blkP w.heap.size (.cells zeroPdu 45 (0, 0)) :: l) (w1.drewN n)) := hid (fun n => h1.quiet (stabC (snkP_stable _ _) (stabC (blkP_stable _ _) HL.out)) (below_drewN (Below.refl _ _) n)); have hC := Sts.snkC h; have k5 := hC.k5; have k7 := hC.k7; have k8 := hC.k8; have k10 := hC.k10; have k19 := hC.k19; have k21 := hC.k21; have k22 := hC.k22; (try dsimp only at k5 k7 k8 k10 k19 k21 k22); rw [c1] at k10; rw [c2] at k21; rw [c8] at k8; rw [c22] at k22; clear hC h h1))
  go_quiet (fail)
  go_wp2_with (first | (refine wpList_agg (HON.out _).swap (stabC (snkP_stable _ _) HL.out) rfl (.tmp 4) (.tmp 123) 45 rfl zeroPdu rfl rfl sizePdu rfl rfl ?_; intro w9 hz; have HF := hid hz; clear hz))
  exact post_cell2 HF.out Try.results44 rfl rfl (ldPdu rfl HF.out) (.bool false) rfl ⟨rfl, HF.out.tail⟩
set_option maxRecDepth 100000 in
set_option maxHeartbeats 4000000 in
theorem cNxtFail (c1 : s1.susp = false) (c2 : s1.ack = false) (hT : 0 ≤ s1.timer + s1.timeout ∧ s1.timer + s1.timeout < 4611686018427387904) (c8 : s1.phase = 0) (ht : decide (s1.timer + s1.timeout ≤ s1.now) = true) (hq : (s1.tries == s1.retries) = true) (hT2 : 0 ≤ (s1.failV 10).timer + (s1.failV 10).timeout ∧ (s1.failV 10).timer + (s1.failV 10).timeout < 4611686018427387904) : Calls Try.prog 44 #[.pointer (some ⟨q, 0, none⟩), .int .i64 now] w fun e w' => e = .returned (.tuple #[.agg (s1.failV 10).repP.cells, .bool (s1.failV 10).repV.2]) ∧ Sts W (snkP q (s1.failV 10).repV.1 :: l) w' := by
  have hwr : IntKind.i64.wrap (s1.timer + s1.timeout) = s1.timer + s1.timeout := by rw [IntKind.wrap_i64]; omega
  have hls : ∀ B ∈ snkP q s :: l, Stable B := stabC (snkP_stable _ _) hl
  have hz : Sts W (blkP w.heap.size (.cells zeroPdu 45 (0, 0)) :: snkP q s :: l) (w.alloc (.cells #[.int .i64 0, .int .i64 0, .int .i64 0, .int .i64 0, .string ⟨#[]⟩, .int .i64 0, .int .i64 0, .slice none 0 0, .int .u32 0, .int .i64 0, .slice none 0 0] 45)) := hs.alloc hls (.cells zeroPdu 45 (0, 0))
  have hbl : ∀ B ∈ blkP w.heap.size (.cells zeroPdu 45 (0, 0)) :: l, Stable B := stabC (blkP_stable _ _) hl
  have hP := cAdv hbl q s hz.swap now
  rw [hp1] at hP
  have HP := hid hP
  have hk0 : (w.alloc (.cells #[.int .i64 0, .int .i64 0, .int .i64 0, .int .i64 0, .string ⟨#[]⟩, .int .i64 0, .int .i64 0, .slice none 0 0, .int .u32 0, .int .i64 0, .slice none 0 0] 45)).cell? ⟨q, 0, none⟩ = some (.bool true) := by obtain ⟨dv, gv, h⟩ := Sts.openSnk hz.swap; exact (Sts.snkC h).k0
  have HVL := hid (cVal _ q hk0)
  have HL := hid hl
  clear hP hz hs hls hbl hl hk0 hp1
  have HTT := hid hT2
  clear hT hT2
  go_enter Try.func44, Try.ntmps44
  go_wp2_with (first | (go_at_call 81; refine HVL.out.mono ?_; rintro e w2 ⟨rfl, rfl⟩) | (go_at_call 82; refine HP.out.mono ?_; rintro e w1 ⟨rfl, h1⟩; have HO := hid h1; obtain ⟨dv, gv, h⟩ := Sts.openSnk h1; have HS := hid h; have HSN : Hid (∀ n, Sts W (blkP q (.cells (s1.cells dv gv) 109 (0, 0)) :: rowP 5 1 dv (s1).data.length (u8s (s1).data) :: rowP 81 2 gv (s1).got.length (Fil.rcells (s1).got) :: blkP w.heap.size (.cells zeroPdu 45 (0, 0)) :: l) (w1.drewN n)) := hid (fun n => h.quiet (stabC (blkP_stable _ _) (stabC (rowP_stable _ _ _ _ _) (stabC (rowP_stable _ _ _ _ _) (stabC (blkP_stable _ _) HL.out)))) (below_drewN (Below.refl _ _) n)); have HON : Hid (∀ n, Sts W (snkP q s1 :: blkP w.heap.size (.cells zeroPdu 45 (0, 0)) :: l) (w1.drewN n)) := hid (fun n => h1.quiet (stabC (snkP_stable _ _) (stabC (blkP_stable _ _) HL.out)) (below_drewN (Below.refl _ _) n)); have hC := Sts.snkC h; have k5 := hC.k5; have k6 := hC.k6; have k7 := hC.k7; have k8 := hC.k8; have k10 := hC.k10; have k19 := hC.k19; have k20 := hC.k20; have k21 := hC.k21; (try dsimp only at k5 k6 k7 k8 k10 k19 k20 k21); rw [c1] at k10; rw [c2] at k21; rw [c8] at k8; clear hC h h1))
  go_quiet (fail)
  go_wp2_with fail
  go_quiet (fail)
  go_wp2_with (first | (go_at_call 90; refine (cFail (stabC (blkP_stable _ _) HL.out) q s1 (HON.out _) 10).mono ?_; rintro e w5 ⟨rfl, hw⟩; have H4 := hid hw; obtain ⟨dv4, gv4, h4⟩ := Sts.openSnk hw; clear k8; have k8 := (Sts.snkC h4).k8; (try dsimp only [Fil.Snk.failV] at k8); clear h4 hw) | (go_at_call 92; refine (cRepK (stabC (blkP_stable _ _) HL.out) q (s1.failV 10) H4.out HTT.out ⟨by show (0 : Int) ≤ 0; omega, by show (0 : Int) < 1000000; omega⟩).mono ?_; rintro e w6 ⟨rfl, hw⟩; have H5 := hid hw.swap; clear hw) | (refine wpList_agg H5.out (stabC (snkP_stable _ _) HL.out) rfl (.tmp 4) (.tmp 109) 45 rfl (s1.failV 10).repP.cells rfl rfl sizePdu rfl rfl ?_; intro w9 hz; have HF := hid hz; clear hz))
  exact post_cell2 HF.out Try.results44 rfl rfl (ldPdu rfl HF.out) (.bool (s1.failV 10).repV.2) rfl ⟨rfl, HF.out.tail⟩
set_option maxRecDepth 100000 in
set_option maxHeartbeats 4000000 in
theorem cNxtAgainZ (c1 : s1.susp = false) (c2 : s1.ack = false) (hT : 0 ≤ s1.timer + s1.timeout ∧ s1.timer + s1.timeout < 4611686018427387904) (c8 : s1.phase = 0) (ht : decide (s1.timer + s1.timeout ≤ s1.now) = true) (hq : (s1.tries == s1.retries) = false) (hy : 0 ≤ s1.tries ∧ s1.tries < 1000000) (hd : (s1.nak = false ∧ s1.fin = false) ∨ (s1.nak = false ∧ s1.fin = true ∧ (s1.cls == 2) = false)) (s9 : Fil.Snk) (hs9 : { s1 with tries := s1.tries + 1, timer := s1.now, nak := false } = s9) : Calls Try.prog 44 #[.pointer (some ⟨q, 0, none⟩), .int .i64 now] w fun e w' => e = .returned (.tuple #[.agg zeroPdu, .bool false]) ∧ Sts W (snkP q s9 :: l) w' := by
  have hwr : IntKind.i64.wrap (s1.timer + s1.timeout) = s1.timer + s1.timeout := by rw [IntKind.wrap_i64]; omega
  have hwy : IntKind.i64.wrap (s1.tries + 1) = s1.tries + 1 := by rw [IntKind.wrap_i64]; omega
  have HR9 := hid hs9
  clear hs9
  rcases hd with ⟨d1, d2⟩ | ⟨d1, d2, d3⟩
  all_goals
    have hls : ∀ B ∈ snkP q s :: l, Stable B := stabC (snkP_stable _ _) hl
    have hz : Sts W (blkP w.heap.size (.cells zeroPdu 45 (0, 0)) :: snkP q s :: l) (w.alloc (.cells #[.int .i64 0, .int .i64 0, .int .i64 0, .int .i64 0, .string ⟨#[]⟩, .int .i64 0, .int .i64 0, .slice none 0 0, .int .u32 0, .int .i64 0, .slice none 0 0] 45)) := hs.alloc hls (.cells zeroPdu 45 (0, 0))
    have hbl : ∀ B ∈ blkP w.heap.size (.cells zeroPdu 45 (0, 0)) :: l, Stable B := stabC (blkP_stable _ _) hl
    have hP := cAdv hbl q s hz.swap now
    rw [hp1] at hP
    have HP := hid hP
    have hk0 : (w.alloc (.cells #[.int .i64 0, .int .i64 0, .int .i64 0, .int .i64 0, .string ⟨#[]⟩, .int .i64 0, .int .i64 0, .slice none 0 0, .int .u32 0, .int .i64 0, .slice none 0 0] 45)).cell? ⟨q, 0, none⟩ = some (.bool true) := by obtain ⟨dv, gv, h⟩ := Sts.openSnk hz.swap; exact (Sts.snkC h).k0
    have HVL := hid (cVal _ q hk0)
    have HL := hid hl
    clear hP hz hs hls hbl hl hk0 hp1
    clear hT hy
    go_enter Try.func44, Try.ntmps44
    go_wp2_with (first | (go_at_call 81; refine HVL.out.mono ?_; rintro e w2 ⟨rfl, rfl⟩) | (go_at_call 82; refine HP.out.mono ?_; rintro e w1 ⟨rfl, h1⟩; have HO := hid h1; obtain ⟨dv, gv, h⟩ := Sts.openSnk h1; have HS := hid h; have HSN : Hid (∀ n, Sts W (blkP q (.cells (s1.cells dv gv) 109 (0, 0)) :: rowP 5 1 dv (s1).data.length (u8s (s1).data) :: rowP 81 2 gv (s1).got.length (Fil.rcells (s1).got) :: blkP w.heap.size (.cells zeroPdu 45 (0, 0)) :: l) (w1.drewN n)) := hid (fun n => h.quiet (stabC (blkP_stable _ _) (stabC (rowP_stable _ _ _ _ _) (stabC (rowP_stable _ _ _ _ _) (stabC (blkP_stable _ _) HL.out)))) (below_drewN (Below.refl _ _) n)); have HON : Hid (∀ n, Sts W (snkP q s1 :: blkP w.heap.size (.cells zeroPdu 45 (0, 0)) :: l) (w1.drewN n)) := hid (fun n => h1.quiet (stabC (snkP_stable _ _) (stabC (blkP_stable _ _) HL.out)) (below_drewN (Below.refl _ _) n)); have hC := Sts.snkC h; have k5 := hC.k5; have k6 := hC.k6; have k7 := hC.k7; have k8 := hC.k8; have k10 := hC.k10; have k14 := hC.k14; have k19 := hC.k19; have k20 := hC.k20; have k21 := hC.k21; have k22 := hC.k22; (try dsimp only at k5 k6 k7 k8 k10 k14 k19 k20 k21 k22); rw [c1] at k10; rw [c2] at k21; rw [c8] at k8; clear hC h h1))
    go_quiet (fail)
    go_wp2_with fail
    go_quiet (fail)
    go_wp2_with (first | (refine wpList_cell (HSN.out _) (stabC (rowP_stable _ _ _ _ _) (stabC (rowP_stable _ _ _ _ _) (stabC (blkP_stable _ _) HL.out))) rfl (.tmp 70) (.tmp 68) 3 rfl 20 (.int .i64 (s1.tries + 1)) rfl rfl szIntK (show 20 < 25 by decide) rfl ?_; intro w3 hz; replace hz : Sts W (blkP q (.cells (({ s1 with tries := s1.tries + 1 }).cells dv gv) 109 (0, 0)) :: rowP 5 1 dv (s1).data.length (u8s (s1).data) :: rowP 81 2 gv (s1).got.length (Fil.rcells (s1).got) :: blkP w.heap.size (.cells zeroPdu 45 (0, 0)) :: l) w3 := hz; have H1 := hid hz; clear k7; have k7 := (Sts.snkC hz).k7; (try dsimp only at k7); clear hz) | (refine wpList_cell H1.out (stabC (rowP_stable _ _ _ _ _) (stabC (rowP_stable _ _ _ _ _) (stabC (blkP_stable _ _) HL.out))) rfl (.tmp 77) (.tmp 75) 3 rfl 19 (.int .i64 s1.now) rfl rfl szIntK (show 19 < 25 by decide) rfl ?_; intro w4 hz; replace hz : Sts W (blkP q (.cells (({ s1 with tries := s1.tries + 1, timer := s1.now }).cells dv gv) 109 (0, 0)) :: rowP 5 1 dv (s1).data.length (u8s (s1).data) :: rowP 81 2 gv (s1).got.length (Fil.rcells (s1).got) :: blkP w.heap.size (.cells zeroPdu 45 (0, 0)) :: l) w4 := hz; have H2 := hid hz; clear k22 k14; have k22 := (Sts.snkC hz).k22; have k14 := (Sts.snkC hz).k14; (try dsimp only at k22 k14); (try rw [d1] at k22); (try rw [d2] at k14); have HA := hid (cAckd q { s1 with tries := s1.tries + 1, timer := s1.now } (Sts.shutSnk (s := { s1 with tries := s1.tries + 1, timer := s1.now }) (dv := dv) (gv := gv) hz)); clear hz) | (go_at_call 91; refine HA.out.mono ?_; rintro e w5 ⟨rfl, rfl⟩; rw [show ({ s1 with tries := s1.tries + 1, timer := s1.now } : Fil.Snk).cls = s1.cls from rfl, d3]) | (refine wpList_cell H2.out (stabC (rowP_stable _ _ _ _ _) (stabC (rowP_stable _ _ _ _ _) (stabC (blkP_stable _ _) HL.out))) rfl (.tmp 94) (.tmp 92) 4 rfl 22 (.bool false) rfl rfl szBoolK (show 22 < 25 by decide) rfl ?_; intro w6 hz; replace hz : Sts W (blkP q (.cells (({ s1 with tries := s1.tries + 1, timer := s1.now, nak := false }).cells dv gv) 109 (0, 0)) :: rowP 5 1 dv (s1).data.length (u8s (s1).data) :: rowP 81 2 gv (s1).got.length (Fil.rcells (s1).got) :: blkP w.heap.size (.cells zeroPdu 45 (0, 0)) :: l) w6 := hz; have H3 := hid hz; clear k22 k8; have k22 := (Sts.snkC hz).k22; have k8 := (Sts.snkC hz).k8; (try dsimp only at k22 k8); rw [c8] at k8; have H4 := hid ((Sts.shutSnk (s := { s1 with tries := s1.tries + 1, timer := s1.now, nak := false }) (dv := dv) (gv := gv) hz).swap); clear hz) | (refine wpList_agg H4.out (stabC (snkP_stable _ _) HL.out) rfl (.tmp 4) (.tmp 123) 45 rfl zeroPdu rfl rfl sizePdu rfl rfl ?_; intro w9 hz; have HF := hid hz; clear hz))
    exact post_cell2 HF.out Try.results44 rfl rfl (ldPdu rfl HF.out) (.bool false) rfl ⟨rfl, by rw [← HR9.out]; exact HF.out.tail⟩
set_option maxRecDepth 100000 in
set_option maxHeartbeats 4000000 in
theorem cNxtNakA (c1 : s1.susp = false) (c2 : s1.ack = false) (hT : 0 ≤ s1.timer + s1.timeout ∧ s1.timer + s1.timeout < 4611686018427387904) (c8 : s1.phase = 0) (ht : decide (s1.timer + s1.timeout ≤ s1.now) = false) (c22 : s1.nak = true) (c11 : s1.named = true) (t : Nat) (hmt : s1.missT = (t : Int)) (htb : t ≤ 100000) (hng : s1.got.length < 1000000) (s9 : Fil.Snk) (hs9 : { s1 with nak := false } = s9) (G9 : List Rng.R) (hg9 : s1.gapsV = G9) : Calls Try.prog 44 #[.pointer (some ⟨q, 0, none⟩), .int .i64 now] w fun e w' => ∃ ga gc, e = .returned (.tuple #[.agg ({ kind := 4, src := s1.src, num := s1.num, ga := ga, gaps := G9, gc := gc } : Fil.Pdu).cells, .bool true]) ∧ Sts W (snkP q s9 :: rowP 81 2 (.slice ga G9.length gc) G9.length (Fil.rcells G9) :: l) w' := by
  have HR9 := hid hs9
  have HG9 := hid hg9
  clear hs9 hg9
  have hwr : IntKind.i64.wrap (s1.timer + s1.timeout) = s1.timer + s1.timeout := by rw [IntKind.wrap_i64]; omega
  have hls : ∀ B ∈ snkP q s :: l, Stable B := stabC (snkP_stable _ _) hl
  have hz : Sts W (blkP w.heap.size (.cells zeroPdu 45 (0, 0)) :: snkP q s :: l) (w.alloc (.cells #[.int .i64 0, .int .i64 0, .int .i64 0, .int .i64 0, .string ⟨#[]⟩, .int .i64 0, .int .i64 0, .slice none 0 0, .int .u32 0, .int .i64 0, .slice none 0 0] 45)) := hs.alloc hls (.cells zeroPdu 45 (0, 0))
  have hbl : ∀ B ∈ blkP w.heap.size (.cells zeroPdu 45 (0, 0)) :: l, Stable B := stabC (blkP_stable _ _) hl
  have hP := cAdv hbl q s hz.swap now
  rw [hp1] at hP
  have HP := hid hP
  have hk0 : (w.alloc (.cells #[.int .i64 0, .int .i64 0, .int .i64 0, .int .i64 0, .string ⟨#[]⟩, .int .i64 0, .int .i64 0, .slice none 0 0, .int .u32 0, .int .i64 0, .slice none 0 0] 45)).cell? ⟨q, 0, none⟩ = some (.bool true) := by obtain ⟨dv, gv, h⟩ := Sts.openSnk hz.swap; exact (Sts.snkC h).k0
  have HVL := hid (cVal _ q hk0)
  have HL := hid hl
  clear hP hz hs hls hbl hl hk0 hp1
  have HMT : Hid (({ s1 with nak := false } : Fil.Snk).missT = (t : Int)) := hid hmt
  have HMT1 := hid hmt
  have HNG := hid hng
  clear hT hmt hng
  go_enter Try.func44, Try.ntmps44
  go_wp2_with (first | (go_at_call 81; refine HVL.out.mono ?_; rintro e w2 ⟨rfl, rfl⟩) | (go_at_call 82; refine HP.out.mono ?_; rintro e w1 ⟨rfl, h1⟩; have HO := hid h1; obtain ⟨dv, gv, h⟩ := Sts.openSnk h1; have HS := hid h; have HSN : Hid (∀ n, Sts W (blkP q (.cells (s1.cells dv gv) 109 (0, 0)) :: rowP 5 1 dv (s1).data.length (u8s (s1).data) :: rowP 81 2 gv (s1).got.length (Fil.rcells (s1).got) :: blkP w.heap.size (.cells zeroPdu 45 (0, 0)) :: l) (w1.drewN n)) := hid (fun n => h.quiet (stabC (blkP_stable _ _) (stabC (rowP_stable _ _ _ _ _) (stabC (rowP_stable _ _ _ _ _) (stabC (blkP_stable _ _) HL.out)))) (below_drewN (Below.refl _ _) n)); have HON : Hid (∀ n, Sts W (snkP q s1 :: blkP w.heap.size (.cells zeroPdu 45 (0, 0)) :: l) (w1.drewN n)) := hid (fun n => h1.quiet (stabC (snkP_stable _ _) (stabC (blkP_stable _ _) HL.out)) (below_drewN (Below.refl _ _) n)); have hC := Sts.snkC h; have k5 := hC.k5; have k7 := hC.k7; have k8 := hC.k8; have k10 := hC.k10; have k19 := hC.k19; have k21 := hC.k21; have k22 := hC.k22; (try dsimp only at k5 k7 k8 k10 k19 k21 k22); rw [c1] at k10; rw [c2] at k21; rw [c8] at k8; rw [c22] at k22; clear hC h h1))
  go_quiet (fail)
  go_wp2_with (first | (refine wpList_cell (HSN.out _) (stabC (rowP_stable _ _ _ _ _) (stabC (rowP_stable _ _ _ _ _) (stabC (blkP_stable _ _) HL.out))) rfl (.tmp 126) (.const (.bool false)) 4 rfl 22 (.bool false) rfl rfl szBoolK (show 22 < 25 by decide) rfl ?_; intro w7 hz; replace hz : Sts W (blkP q (.cells (({ s1 with nak := false }).cells dv gv) 109 (0, 0)) :: rowP 5 1 dv (s1).data.length (u8s (s1).data) :: rowP 81 2 gv (s1).got.length (Fil.rcells (s1).got) :: blkP w.heap.size (.cells zeroPdu 45 (0, 0)) :: l) w7 := hz; have H5 := hid hz; have HU := hid (cUnitK (stabC (blkP_stable _ _) HL.out) q { s1 with nak := false } (Sts.shutSnk (s := { s1 with nak := false }) (dv := dv) (gv := gv) hz) 4); clear hz) | (go_at_call 89; refine HU.out.mono ?_; rintro e w8 ⟨rfl, hw⟩; have HQ := hid (hw.alloc (stabC (snkP_stable _ _) (stabC (blkP_stable _ _) HL.out)) (.cells zeroPdu 45 (0, 0))); clear hw) | (refine wpList_agg HQ.out (stabC (snkP_stable _ _) (stabC (blkP_stable _ _) HL.out)) rfl (.tmp 6) (.tmp 128) 45 rfl (Fil.Snk.unitP { s1 with nak := false } 4).cells rfl rfl sizePdu rfl rfl ?_; intro w9 hz; generalize hb6 : w8.heap.size = b6 at *; replace hz : Sts W (blkP b6 (.cells #[.int .i64 4, .int .i64 s1.src, .int .i64 s1.num, .int .i64 0, .string ⟨#[]⟩, .int .i64 0, .int .i64 0, .slice none 0 0, .int .u32 0, .int .i64 0, (.slice none 0 0)] 45 (0, 0)) :: snkP q { s1 with nak := false } :: blkP w.heap.size (.cells zeroPdu 45 (0, 0)) :: l) w9 := hz; have HR := hid ((Sts.rowNilK 81 2 hz)); have g10 := (Sts.boxCell hz 10 _ rfl).1; have k11 := (show w9.cell? ⟨q, 11, none⟩ = some (.bool s1.named) by obtain ⟨dv5, gv5, h5⟩ := Sts.openSnk hz.tail; exact (Sts.snkC h5).k11); rw [c11] at k11; have HAL := hid ((Sts.rowNilK 81 2 hz).alloc (stabC (rowP_stable _ _ _ _ _) (stabC (blkP_stable _ _) (stabC (snkP_stable _ _) (stabC (blkP_stable _ _) HL.out)))) (.cells #[.int .i64 0, .int .i64 0] 81 (0, 0))).tail; clear hz hb6 HQ HU H5))
  have HC2 := hid (HR.out.swap)
  have hMS := cMissK (stabC (blkP_stable _ _) (stabC (rowP_stable _ _ _ _ _) (stabC (blkP_stable _ _) HL.out))) q { s1 with nak := false } HC2.out.third t HMT.out htb HNG.out
  refine hMS.mono ?_
  rintro e w12 ⟨r, rfl, hN⟩
  have hH := Sts.newR (stabC (blkP_stable _ _) (stabC (rowP_stable _ _ _ _ _) (stabC (snkP_stable _ _) (stabC (blkP_stable _ _) HL.out)))) HC2.out hN
  obtain ⟨ma, mc, hr⟩ := hN.rd.eq
  subst hr
  have HMG : Hid (Rng.missV ({ s1 with nak := false } : Fil.Snk).got t = Rng.missV s1.got t) := rfl
  rw [HMG.out] at hH
  have hMl := Rng.valid_len' (Rng.missV_mem s1.got t).1 (b := (t : Int)) (by omega) (fun m hm => (((Rng.missV_mem s1.got t).2 m).1 hm).1)
  generalize hM : Rng.missV s1.got t = M at *
  replace hMl : M.length ≤ 100000 := by omega
  have HMM := hid hM
  have HD := hid hH.third'
  clear hH hN hM hMS HC2 HMG
  go_wp2_with fail
  go_loopw [143] (fun i wr => ∃ (k : Nat) (gv : Value), k ≤ M.length ∧ i = .int .i64 k ∧ Sts W (blkP b6 (.cells #[.int .i64 4, .int .i64 s1.src, .int .i64 s1.num, .int .i64 0, .string ⟨#[]⟩, .int .i64 0, .int .i64 0, .slice none 0 0, .int .u32 0, .int .i64 0, gv] 45 (0, 0)) :: rowP 81 2 gv (([] ++ M.take k).take 16).length (Fil.rcells (([] ++ M.take k).take 16)) :: rowP 81 2 (.slice ma M.length mc) (M).length (Fil.rcells (M)) :: snkP q { s1 with nak := false } :: blkP w.heap.size (.cells zeroPdu 45 (0, 0)) :: l) wr) (fun i _ => M.length - (intOf i).toNat)
  case atStart => exact ⟨0, _, by omega, rfl, HD.out⟩
  case round =>
    obtain ⟨k, gv, hk, rfl, hS⟩ := hrel
    obtain ⟨ga, gc, hge⟩ := (RdR.of_own (Sts.rowOwnK hS.tail) rfl).eq
    subst hge
    have HS9 := hid hS
    have g10 := (Sts.boxCell hS 10 _ rfl).1
    obtain ⟨ma2, mc2, hme, hcap, hx⟩ := (RdR.of_own (Sts.rowOwnK hS.tail.tail) rfl : RdR wr (.slice ma M.length mc) M)
    injection hme with hm1 hm2 hm3
    subst hm1
    subst hm3
    clear hS hm2 hcap HD
    by_cases hlt : k < M.length
    · obtain ⟨b, off, rfl, hb, x0, x1⟩ := hx k hlt
      have HX0 := hid hx
      have HTA := hid (Fil.take16_a [] M k hlt)
      have HTB := hid (Fil.take16_b [] M k)
      generalize M[k] = rr at *
      obtain ⟨r1, r2⟩ := rr
      simp only [] at x0 x1
      generalize hgk : ([] ++ M.take k).take 16 = gk at *
      have HBX := hid (HS9.out.alloc (stabC (blkP_stable _ _) (stabC (rowP_stable _ _ _ _ _) (stabC (rowP_stable _ _ _ _ _) (stabC (snkP_stable _ _) (stabC (blkP_stable _ _) HL.out))))) (.cells #[.int .i64 0, .int .i64 0] 81 (0, 0)))
      clear hgk hb hx
      obtain ⟨g2, hg2⟩ : ∃ g2, gk ++ [(r1, r2)] = g2 := ⟨_, rfl⟩
      have HG2 := hid hg2
      clear hg2
      by_cases h16 : gk.length < 16
      · have h16d : decide (gk.length < 16) = true := decide_eq_true h16
        have h16i : (gk.length : Int) < 16 := by omega
        have h16j : decide ((gk.length : Int) < 16) = true := decide_eq_true h16i
        go_wp2_with (first | (refine wpList_agg HBX.out (stabC (blkP_stable _ _) (stabC (rowP_stable _ _ _ _ _) (stabC (rowP_stable _ _ _ _ _) (stabC (snkP_stable _ _) (stabC (blkP_stable _ _) HL.out))))) rfl (.tmp 8) (.tmp 146) 81 rfl #[.int .i64 r1, .int .i64 r2] rfl rfl sizeR rfl rfl ?_; intro w13 hz; have HY := hid hz; clear g10; have g10 := (Sts.boxCell hz.tail 10 _ rfl).1; have HYA := hid (hz.third.alloc (stabC (rowP_stable _ _ _ _ _) (stabC (blkP_stable _ _) (stabC (blkP_stable _ _) (stabC (rowP_stable _ _ _ _ _) (stabC (snkP_stable _ _) (stabC (blkP_stable _ _) HL.out)))))) (.cells #[.int .i64 r1, .int .i64 r2] 81 (0, 0))).tail; clear hz HBX x0 x1) | (refine wpList_ld2 rfl (.tmp 8) 81 rfl rfl (.agg #[.int .i64 r1, .int .i64 r2]) (ldRng rfl HY.out) ?_) | (at_builtin; refine wpList_appendR (l := gk) rfl (.tmp 152) (.tmp 154) rfl HYA (stabC (blkP_stable _ _) (stabC (blkP_stable _ _) (stabC (rowP_stable _ _ _ _ _) (stabC (snkP_stable _ _) (stabC (blkP_stable _ _) HL.out))))) rfl _ rfl (rdR_one _ r1 r2) (by simp; omega) ?_; intro v2 w14 hz; rw [HG2.out] at hz; obtain ⟨va2, vc2, hv2⟩ := (RdR.of_own (Sts.rowOwnK hz) rfl).eq; subst hv2; have HE := hid hz.third; clear hz g10) | (refine wpList_cell HE.out (stabC (rowP_stable _ _ _ _ _) (stabC (blkP_stable _ _) (stabC (rowP_stable _ _ _ _ _) (stabC (snkP_stable _ _) (stabC (blkP_stable _ _) HL.out))))) rfl (.tmp 156) (.tmp 155) 36 rfl 10 (.slice va2 g2.length vc2) rfl rfl szRngK (show 10 < 11 by decide) rfl ?_; intro w15 hz; have HG := hid hz; clear hz HE))
        go_roundw
        case rel => exact ⟨k + 1, _, by omega, by go_num, by rw [HTA.out h16, HG2.out]; exact HG.out.third.tail⟩
        case measure => simp [intOf]; omega
      · have h16d : decide (gk.length < 16) = false := decide_eq_false h16
        have h16i : ¬ (gk.length : Int) < 16 := by omega
        have h16j : decide ((gk.length : Int) < 16) = false := decide_eq_false h16i
        go_wp2_with (first | (refine wpList_agg HBX.out (stabC (blkP_stable _ _) (stabC (rowP_stable _ _ _ _ _) (stabC (rowP_stable _ _ _ _ _) (stabC (snkP_stable _ _) (stabC (blkP_stable _ _) HL.out))))) rfl (.tmp 8) (.tmp 146) 81 rfl #[.int .i64 r1, .int .i64 r2] rfl rfl sizeR rfl rfl ?_; intro w13 hz; have HY := hid hz; clear g10; have g10 := (Sts.boxCell hz.tail 10 _ rfl).1; have HYA := hid (hz.third.alloc (stabC (rowP_stable _ _ _ _ _) (stabC (blkP_stable _ _) (stabC (blkP_stable _ _) (stabC (rowP_stable _ _ _ _ _) (stabC (snkP_stable _ _) (stabC (blkP_stable _ _) HL.out)))))) (.cells #[.int .i64 r1, .int .i64 r2] 81 (0, 0))).tail; clear hz HBX x0 x1) | (refine wpList_ld2 rfl (.tmp 8) 81 rfl rfl (.agg #[.int .i64 r1, .int .i64 r2]) (ldRng rfl HY.out) ?_) | (at_builtin; refine wpList_appendR (l := gk) rfl (.tmp 152) (.tmp 154) rfl HYA (stabC (blkP_stable _ _) (stabC (blkP_stable _ _) (stabC (rowP_stable _ _ _ _ _) (stabC (snkP_stable _ _) (stabC (blkP_stable _ _) HL.out))))) rfl _ rfl (rdR_one _ r1 r2) (by simp; omega) ?_; intro v2 w14 hz; rw [HG2.out] at hz; obtain ⟨va2, vc2, hv2⟩ := (RdR.of_own (Sts.rowOwnK hz) rfl).eq; subst hv2; have HE := hid hz.third; clear hz g10) | (refine wpList_cell HE.out (stabC (rowP_stable _ _ _ _ _) (stabC (blkP_stable _ _) (stabC (rowP_stable _ _ _ _ _) (stabC (snkP_stable _ _) (stabC (blkP_stable _ _) HL.out))))) rfl (.tmp 156) (.tmp 155) 36 rfl 10 (.slice va2 g2.length vc2) rfl rfl szRngK (show 10 < 11 by decide) rfl ?_; intro w15 hz; have HG := hid hz; clear hz HE))
        go_roundw
        case rel => exact ⟨k + 1, _, by omega, by go_num, by rw [HTB.out h16]; exact HY.out.tail⟩
        case measure => simp [intOf]; omega
    · obtain rfl : M.length = k := by omega
      have hgv : ([] ++ M.take M.length).take 16 = G9 := by
        rw [← HG9.out]
        unfold Fil.Snk.gapsV
        rw [List.take_length, c11, HMT1.out, HMM.out]
        rfl
      rw [hgv] at HS9
      have HZ4 := hid (HS9.out.perm (List.perm_middle (l₁ := [_, _, _, _]) (l₂ := l)))
      clear hgv g10 hx
      go_wp2_with (first | (refine wpList_ld2 rfl (.tmp 6) 45 rfl rfl (.agg #[.int .i64 4, .int .i64 s1.src, .int .i64 s1.num, .int .i64 0, .string ⟨#[]⟩, .int .i64 0, .int .i64 0, .slice none 0 0, .int .u32 0, .int .i64 0, .slice ga G9.length gc]) (ldPdu rfl HS9.out) ?_) | (refine wpList_agg HZ4.out (stabC (blkP_stable _ _) (stabC (rowP_stable _ _ _ _ _) (stabC (rowP_stable _ _ _ _ _) (stabC (snkP_stable _ _) HL.out)))) rfl (.tmp 4) (.tmp 158) 45 rfl #[.int .i64 4, .int .i64 s1.src, .int .i64 s1.num, .int .i64 0, .string ⟨#[]⟩, .int .i64 0, .int .i64 0, .slice none 0 0, .int .u32 0, .int .i64 0, .slice ga G9.length gc] rfl rfl sizePdu rfl rfl ?_; intro w16 hz; have HF := hid hz; clear hz))
      exact post_cell2 HF.out Try.results44 rfl rfl (ldPdu rfl HF.out) (.bool true) rfl ⟨ga, gc, rfl, by rw [← HR9.out]; exact HF.out.tail.tail.swap.tail.swap⟩
set_option maxRecDepth 100000 in
set_option maxHeartbeats 4000000 in
theorem cNxtNakB (c1 : s1.susp = false) (c2 : s1.ack = false) (hT : 0 ≤ s1.timer + s1.timeout ∧ s1.timer + s1.timeout < 4611686018427387904) (c8 : s1.phase = 0) (ht : decide (s1.timer + s1.timeout ≤ s1.now) = false) (c22 : s1.nak = true) (c11 : s1.named = false) (t : Nat) (hmt : s1.missT = (t : Int)) (htb : t ≤ 100000) (hng : s1.got.length < 1000000) (s9 : Fil.Snk) (hs9 : { s1 with nak := false } = s9) (G9 : List Rng.R) (hg9 : s1.gapsV = G9) : Calls Try.prog 44 #[.pointer (some ⟨q, 0, none⟩), .int .i64 now] w fun e w' => ∃ ga gc, e = .returned (.tuple #[.agg ({ kind := 4, src := s1.src, num := s1.num, ga := ga, gaps := G9, gc := gc } : Fil.Pdu).cells, .bool true]) ∧ Sts W (snkP q s9 :: rowP 81 2 (.slice ga G9.length gc) G9.length (Fil.rcells G9) :: l) w' := by
  have HR9 := hid hs9
  have HG9 := hid hg9
  clear hs9 hg9
  have hwr : IntKind.i64.wrap (s1.timer + s1.timeout) = s1.timer + s1.timeout := by rw [IntKind.wrap_i64]; omega
  have hls : ∀ B ∈ snkP q s :: l, Stable B := stabC (snkP_stable _ _) hl
  have hz : Sts W (blkP w.heap.size (.cells zeroPdu 45 (0, 0)) :: snkP q s :: l) (w.alloc (.cells #[.int .i64 0, .int .i64 0, .int .i64 0, .int .i64 0, .string ⟨#[]⟩, .int .i64 0, .int .i64 0, .slice none 0 0, .int .u32 0, .int .i64 0, .slice none 0 0] 45)) := hs.alloc hls (.cells zeroPdu 45 (0, 0))
  have hbl : ∀ B ∈ blkP w.heap.size (.cells zeroPdu 45 (0, 0)) :: l, Stable B := stabC (blkP_stable _ _) hl
  have hP := cAdv hbl q s hz.swap now
  rw [hp1] at hP
  have HP := hid hP
  have hk0 : (w.alloc (.cells #[.int .i64 0, .int .i64 0, .int .i64 0, .int .i64 0, .string ⟨#[]⟩, .int .i64 0, .int .i64 0, .slice none 0 0, .int .u32 0, .int .i64 0, .slice none 0 0] 45)).cell? ⟨q, 0, none⟩ = some (.bool true) := by obtain ⟨dv, gv, h⟩ := Sts.openSnk hz.swap; exact (Sts.snkC h).k0
  have HVL := hid (cVal _ q hk0)
  have HL := hid hl
  clear hP hz hs hls hbl hl hk0 hp1
  have HMT : Hid (({ s1 with nak := false } : Fil.Snk).missT = (t : Int)) := hid hmt
  have HMT1 := hid hmt
  have HNG := hid hng
  clear hT hmt hng
  go_enter Try.func44, Try.ntmps44
  go_wp2_with (first | (go_at_call 81; refine HVL.out.mono ?_; rintro e w2 ⟨rfl, rfl⟩) | (go_at_call 82; refine HP.out.mono ?_; rintro e w1 ⟨rfl, h1⟩; have HO := hid h1; obtain ⟨dv, gv, h⟩ := Sts.openSnk h1; have HS := hid h; have HSN : Hid (∀ n, Sts W (blkP q (.cells (s1.cells dv gv) 109 (0, 0)) :: rowP 5 1 dv (s1).data.length (u8s (s1).data) :: rowP 81 2 gv (s1).got.length (Fil.rcells (s1).got) :: blkP w.heap.size (.cells zeroPdu 45 (0, 0)) :: l) (w1.drewN n)) := hid (fun n => h.quiet (stabC (blkP_stable _ _) (stabC (rowP_stable _ _ _ _ _) (stabC (rowP_stable _ _ _ _ _) (stabC (blkP_stable _ _) HL.out)))) (below_drewN (Below.refl _ _) n)); have HON : Hid (∀ n, Sts W (snkP q s1 :: blkP w.heap.size (.cells zeroPdu 45 (0, 0)) :: l) (w1.drewN n)) := hid (fun n => h1.quiet (stabC (snkP_stable _ _) (stabC (blkP_stable _ _) HL.out)) (below_drewN (Below.refl _ _) n)); have hC := Sts.snkC h; have k5 := hC.k5; have k7 := hC.k7; have k8 := hC.k8; have k10 := hC.k10; have k19 := hC.k19; have k21 := hC.k21; have k22 := hC.k22; (try dsimp only at k5 k7 k8 k10 k19 k21 k22); rw [c1] at k10; rw [c2] at k21; rw [c8] at k8; rw [c22] at k22; clear hC h h1))
  go_quiet (fail)
  go_wp2_with (first | (refine wpList_cell (HSN.out _) (stabC (rowP_stable _ _ _ _ _) (stabC (rowP_stable _ _ _ _ _) (stabC (blkP_stable _ _) HL.out))) rfl (.tmp 126) (.const (.bool false)) 4 rfl 22 (.bool false) rfl rfl szBoolK (show 22 < 25 by decide) rfl ?_; intro w7 hz; replace hz : Sts W (blkP q (.cells (({ s1 with nak := false }).cells dv gv) 109 (0, 0)) :: rowP 5 1 dv (s1).data.length (u8s (s1).data) :: rowP 81 2 gv (s1).got.length (Fil.rcells (s1).got) :: blkP w.heap.size (.cells zeroPdu 45 (0, 0)) :: l) w7 := hz; have H5 := hid hz; have HU := hid (cUnitK (stabC (blkP_stable _ _) HL.out) q { s1 with nak := false } (Sts.shutSnk (s := { s1 with nak := false }) (dv := dv) (gv := gv) hz) 4); clear hz) | (go_at_call 89; refine HU.out.mono ?_; rintro e w8 ⟨rfl, hw⟩; have HQ := hid (hw.alloc (stabC (snkP_stable _ _) (stabC (blkP_stable _ _) HL.out)) (.cells zeroPdu 45 (0, 0))); clear hw) | (refine wpList_agg HQ.out (stabC (snkP_stable _ _) (stabC (blkP_stable _ _) HL.out)) rfl (.tmp 6) (.tmp 128) 45 rfl (Fil.Snk.unitP { s1 with nak := false } 4).cells rfl rfl sizePdu rfl rfl ?_; intro w9 hz; generalize hb6 : w8.heap.size = b6 at *; replace hz : Sts W (blkP b6 (.cells #[.int .i64 4, .int .i64 s1.src, .int .i64 s1.num, .int .i64 0, .string ⟨#[]⟩, .int .i64 0, .int .i64 0, .slice none 0 0, .int .u32 0, .int .i64 0, (.slice none 0 0)] 45 (0, 0)) :: snkP q { s1 with nak := false } :: blkP w.heap.size (.cells zeroPdu 45 (0, 0)) :: l) w9 := hz; have HR := hid ((Sts.rowNilK 81 2 hz)); have g10 := (Sts.boxCell hz 10 _ rfl).1; have k11 := (show w9.cell? ⟨q, 11, none⟩ = some (.bool s1.named) by obtain ⟨dv5, gv5, h5⟩ := Sts.openSnk hz.tail; exact (Sts.snkC h5).k11); rw [c11] at k11; have HAL := hid ((Sts.rowNilK 81 2 hz).alloc (stabC (rowP_stable _ _ _ _ _) (stabC (blkP_stable _ _) (stabC (snkP_stable _ _) (stabC (blkP_stable _ _) HL.out)))) (.cells #[.int .i64 0, .int .i64 0] 81 (0, 0))).tail; clear hz hb6 HQ HU H5) | (at_builtin; refine wpList_appendR (l := []) rfl (.tmp 135) (.tmp 137) rfl HAL (stabC (blkP_stable _ _) (stabC (snkP_stable _ _) (stabC (blkP_stable _ _) HL.out))) rfl _ rfl (rdR_one _ 0 0) (by simp) ?_; intro v1 w10 hz; obtain ⟨va, vc, hv⟩ := (RdR.of_own (Sts.rowOwnK hz) rfl).eq; subst hv; have HB := hid hz.swap; clear hz g10) | (refine wpList_cell HB.out (stabC (rowP_stable _ _ _ _ _) (stabC (snkP_stable _ _) (stabC (blkP_stable _ _) HL.out))) rfl (.tmp 139) (.tmp 138) 36 rfl 10 (.slice va 1 vc) rfl rfl szRngK (show 10 < 11 by decide) rfl ?_; intro w11 hz; replace hz : Sts W (blkP b6 (.cells #[.int .i64 4, .int .i64 s1.src, .int .i64 s1.num, .int .i64 0, .string ⟨#[]⟩, .int .i64 0, .int .i64 0, .slice none 0 0, .int .u32 0, .int .i64 0, (.slice va 1 vc)] 45 (0, 0)) :: rowP 81 2 (.slice va 1 vc) ([((0 : Int), (0 : Int))]).length (Fil.rcells ([((0 : Int), (0 : Int))])) :: snkP q { s1 with nak := false } :: blkP w.heap.size (.cells zeroPdu 45 (0, 0)) :: l) w11 := hz; have HC := hid hz; clear hz HB))
  have HC2 := hid (HC.out)
  have hMS := cMissK (stabC (blkP_stable _ _) (stabC (rowP_stable _ _ _ _ _) (stabC (blkP_stable _ _) HL.out))) q { s1 with nak := false } HC2.out.third t HMT.out htb HNG.out
  refine hMS.mono ?_
  rintro e w12 ⟨r, rfl, hN⟩
  have hH := Sts.newR (stabC (blkP_stable _ _) (stabC (rowP_stable _ _ _ _ _) (stabC (snkP_stable _ _) (stabC (blkP_stable _ _) HL.out)))) HC2.out hN
  obtain ⟨ma, mc, hr⟩ := hN.rd.eq
  subst hr
  have HMG : Hid (Rng.missV ({ s1 with nak := false } : Fil.Snk).got t = Rng.missV s1.got t) := rfl
  rw [HMG.out] at hH
  have hMl := Rng.valid_len' (Rng.missV_mem s1.got t).1 (b := (t : Int)) (by omega) (fun m hm => (((Rng.missV_mem s1.got t).2 m).1 hm).1)
  generalize hM : Rng.missV s1.got t = M at *
  replace hMl : M.length ≤ 100000 := by omega
  have HMM := hid hM
  have HD := hid hH.third'
  clear hH hN hM hMS HC2 HMG
  go_wp2_with fail
  go_loopw [143] (fun i wr => ∃ (k : Nat) (gv : Value), k ≤ M.length ∧ i = .int .i64 k ∧ Sts W (blkP b6 (.cells #[.int .i64 4, .int .i64 s1.src, .int .i64 s1.num, .int .i64 0, .string ⟨#[]⟩, .int .i64 0, .int .i64 0, .slice none 0 0, .int .u32 0, .int .i64 0, gv] 45 (0, 0)) :: rowP 81 2 gv (([((0 : Int), (0 : Int))] ++ M.take k).take 16).length (Fil.rcells (([((0 : Int), (0 : Int))] ++ M.take k).take 16)) :: rowP 81 2 (.slice ma M.length mc) (M).length (Fil.rcells (M)) :: snkP q { s1 with nak := false } :: blkP w.heap.size (.cells zeroPdu 45 (0, 0)) :: l) wr) (fun i _ => M.length - (intOf i).toNat)
  case atStart => exact ⟨0, _, by omega, rfl, HD.out⟩
  case round =>
    obtain ⟨k, gv, hk, rfl, hS⟩ := hrel
    obtain ⟨ga, gc, hge⟩ := (RdR.of_own (Sts.rowOwnK hS.tail) rfl).eq
    subst hge
    have HS9 := hid hS
    have g10 := (Sts.boxCell hS 10 _ rfl).1
    obtain ⟨ma2, mc2, hme, hcap, hx⟩ := (RdR.of_own (Sts.rowOwnK hS.tail.tail) rfl : RdR wr (.slice ma M.length mc) M)
    injection hme with hm1 hm2 hm3
    subst hm1
    subst hm3
    clear hS hm2 hcap HD
    by_cases hlt : k < M.length
    · obtain ⟨b, off, rfl, hb, x0, x1⟩ := hx k hlt
      have HX0 := hid hx
      have HTA := hid (Fil.take16_a [((0 : Int), (0 : Int))] M k hlt)
      have HTB := hid (Fil.take16_b [((0 : Int), (0 : Int))] M k)
      generalize M[k] = rr at *
      obtain ⟨r1, r2⟩ := rr
      simp only [] at x0 x1
      generalize hgk : ([((0 : Int), (0 : Int))] ++ M.take k).take 16 = gk at *
      have HBX := hid (HS9.out.alloc (stabC (blkP_stable _ _) (stabC (rowP_stable _ _ _ _ _) (stabC (rowP_stable _ _ _ _ _) (stabC (snkP_stable _ _) (stabC (blkP_stable _ _) HL.out))))) (.cells #[.int .i64 0, .int .i64 0] 81 (0, 0)))
      clear hgk hb hx
      obtain ⟨g2, hg2⟩ : ∃ g2, gk ++ [(r1, r2)] = g2 := ⟨_, rfl⟩
      have HG2 := hid hg2
      clear hg2
      by_cases h16 : gk.length < 16
      · have h16d : decide (gk.length < 16) = true := decide_eq_true h16
        have h16i : (gk.length : Int) < 16 := by omega
        have h16j : decide ((gk.length : Int) < 16) = true := decide_eq_true h16i
        go_wp2_with (first | (refine wpList_agg HBX.out (stabC (blkP_stable _ _) (stabC (rowP_stable _ _ _ _ _) (stabC (rowP_stable _ _ _ _ _) (stabC (snkP_stable _ _) (stabC (blkP_stable _ _) HL.out))))) rfl (.tmp 8) (.tmp 146) 81 rfl #[.int .i64 r1, .int .i64 r2] rfl rfl sizeR rfl rfl ?_; intro w13 hz; have HY := hid hz; clear g10; have g10 := (Sts.boxCell hz.tail 10 _ rfl).1; have HYA := hid (hz.third.alloc (stabC (rowP_stable _ _ _ _ _) (stabC (blkP_stable _ _) (stabC (blkP_stable _ _) (stabC (rowP_stable _ _ _ _ _) (stabC (snkP_stable _ _) (stabC (blkP_stable _ _) HL.out)))))) (.cells #[.int .i64 r1, .int .i64 r2] 81 (0, 0))).tail; clear hz HBX x0 x1) | (refine wpList_ld2 rfl (.tmp 8) 81 rfl rfl (.agg #[.int .i64 r1, .int .i64 r2]) (ldRng rfl HY.out) ?_) | (at_builtin; refine wpList_appendR (l := gk) rfl (.tmp 152) (.tmp 154) rfl HYA (stabC (blkP_stable _ _) (stabC (blkP_stable _ _) (stabC (rowP_stable _ _ _ _ _) (stabC (snkP_stable _ _) (stabC (blkP_stable _ _) HL.out))))) rfl _ rfl (rdR_one _ r1 r2) (by simp; omega) ?_; intro v2 w14 hz; rw [HG2.out] at hz; obtain ⟨va2, vc2, hv2⟩ := (RdR.of_own (Sts.rowOwnK hz) rfl).eq; subst hv2; have HE := hid hz.third; clear hz g10) | (refine wpList_cell HE.out (stabC (rowP_stable _ _ _ _ _) (stabC (blkP_stable _ _) (stabC (rowP_stable _ _ _ _ _) (stabC (snkP_stable _ _) (stabC (blkP_stable _ _) HL.out))))) rfl (.tmp 156) (.tmp 155) 36 rfl 10 (.slice va2 g2.length vc2) rfl rfl szRngK (show 10 < 11 by decide) rfl ?_; intro w15 hz; have HG := hid hz; clear hz HE))
        go_roundw
        case rel => exact ⟨k + 1, _, by omega, by go_num, by rw [HTA.out h16, HG2.out]; exact HG.out.third.tail⟩
        case measure => simp [intOf]; omega
      · have h16d : decide (gk.length < 16) = false := decide_eq_false h16
        have h16i : ¬ (gk.length : Int) < 16 := by omega
        have h16j : decide ((gk.length : Int) < 16) = false := decide_eq_false h16i
        go_wp2_with (first | (refine wpList_agg HBX.out (stabC (blkP_stable _ _) (stabC (rowP_stable _ _ _ _ _) (stabC (rowP_stable _ _ _ _ _) (stabC (snkP_stable _ _) (stabC (blkP_stable _ _) HL.out))))) rfl (.tmp 8) (.tmp 146) 81 rfl #[.int .i64 r1, .int .i64 r2] rfl rfl sizeR rfl rfl ?_; intro w13 hz; have HY := hid hz; clear g10; have g10 := (Sts.boxCell hz.tail 10 _ rfl).1; have HYA := hid (hz.third.alloc (stabC (rowP_stable _ _ _ _ _) (stabC (blkP_stable _ _) (stabC (blkP_stable _ _) (stabC (rowP_stable _ _ _ _ _) (stabC (snkP_stable _ _) (stabC (blkP_stable _ _) HL.out)))))) (.cells #[.int .i64 r1, .int .i64 r2] 81 (0, 0))).tail; clear hz HBX x0 x1) | (refine wpList_ld2 rfl (.tmp 8) 81 rfl rfl (.agg #[.int .i64 r1, .int .i64 r2]) (ldRng rfl HY.out) ?_) | (at_builtin; refine wpList_appendR (l := gk) rfl (.tmp 152) (.tmp 154) rfl HYA (stabC (blkP_stable _ _) (stabC (blkP_stable _ _) (stabC (rowP_stable _ _ _ _ _) (stabC (snkP_stable _ _) (stabC (blkP_stable _ _) HL.out))))) rfl _ rfl (rdR_one _ r1 r2) (by simp; omega) ?_; intro v2 w14 hz; rw [HG2.out] at hz; obtain ⟨va2, vc2, hv2⟩ := (RdR.of_own (Sts.rowOwnK hz) rfl).eq; subst hv2; have HE := hid hz.third; clear hz g10) | (refine wpList_cell HE.out (stabC (rowP_stable _ _ _ _ _) (stabC (blkP_stable _ _) (stabC (rowP_stable _ _ _ _ _) (stabC (snkP_stable _ _) (stabC (blkP_stable _ _) HL.out))))) rfl (.tmp 156) (.tmp 155) 36 rfl 10 (.slice va2 g2.length vc2) rfl rfl szRngK (show 10 < 11 by decide) rfl ?_; intro w15 hz; have HG := hid hz; clear hz HE))
        go_roundw
        case rel => exact ⟨k + 1, _, by omega, by go_num, by rw [HTB.out h16]; exact HY.out.tail⟩
        case measure => simp [intOf]; omega
    · obtain rfl : M.length = k := by omega
      have hgv : ([((0 : Int), (0 : Int))] ++ M.take M.length).take 16 = G9 := by
        rw [← HG9.out]
        unfold Fil.Snk.gapsV
        rw [List.take_length, c11, HMT1.out, HMM.out]
        rfl
      rw [hgv] at HS9
      have HZ4 := hid (HS9.out.perm (List.perm_middle (l₁ := [_, _, _, _]) (l₂ := l)))
      clear hgv g10 hx
      go_wp2_with (first | (refine wpList_ld2 rfl (.tmp 6) 45 rfl rfl (.agg #[.int .i64 4, .int .i64 s1.src, .int .i64 s1.num, .int .i64 0, .string ⟨#[]⟩, .int .i64 0, .int .i64 0, .slice none 0 0, .int .u32 0, .int .i64 0, .slice ga G9.length gc]) (ldPdu rfl HS9.out) ?_) | (refine wpList_agg HZ4.out (stabC (blkP_stable _ _) (stabC (rowP_stable _ _ _ _ _) (stabC (rowP_stable _ _ _ _ _) (stabC (snkP_stable _ _) HL.out)))) rfl (.tmp 4) (.tmp 158) 45 rfl #[.int .i64 4, .int .i64 s1.src, .int .i64 s1.num, .int .i64 0, .string ⟨#[]⟩, .int .i64 0, .int .i64 0, .slice none 0 0, .int .u32 0, .int .i64 0, .slice ga G9.length gc] rfl rfl sizePdu rfl rfl ?_; intro w16 hz; have HF := hid hz; clear hz))
      exact post_cell2 HF.out Try.results44 rfl rfl (ldPdu rfl HF.out) (.bool true) rfl ⟨ga, gc, rfl, by rw [← HR9.out]; exact HF.out.tail.tail.swap.tail.swap⟩
set_option maxRecDepth 100000 in
set_option maxHeartbeats 4000000 in
theorem cNxtAgainNA (c1 : s1.susp = false) (c2 : s1.ack = false) (hT : 0 ≤ s1.timer + s1.timeout ∧ s1.timer + s1.timeout < 4611686018427387904) (c8 : s1.phase = 0) (ht : decide (s1.timer + s1.timeout ≤ s1.now) = true) (hq : (s1.tries == s1.retries) = false) (hy : 0 ≤ s1.tries ∧ s1.tries < 1000000) (hd : s1.nak = true ∨ (s1.nak = false ∧ s1.fin = true ∧ (s1.cls == 2) = true)) (c11 : s1.named = true) (t : Nat) (hmt : s1.missT = (t : Int)) (htb : t ≤ 100000) (hng : s1.got.length < 1000000) (s9 : Fil.Snk) (hs9 : { s1 with tries := s1.tries + 1, timer := s1.now, nak := false } = s9) (G9 : List Rng.R) (hg9 : s1.gapsV = G9) : Calls Try.prog 44 #[.pointer (some ⟨q, 0, none⟩), .int .i64 now] w fun e w' => ∃ ga gc, e = .returned (.tuple #[.agg ({ kind := 4, src := s1.src, num := s1.num, ga := ga, gaps := G9, gc := gc } : Fil.Pdu).cells, .bool true]) ∧ Sts W (snkP q s9 :: rowP 81 2 (.slice ga G9.length gc) G9.length (Fil.rcells G9) :: l) w' := by
  have HR9 := hid hs9
  have HG9 := hid hg9
  clear hs9 hg9
  have hwr : IntKind.i64.wrap (s1.timer + s1.timeout) = s1.timer + s1.timeout := by rw [IntKind.wrap_i64]; omega
  have hwy : IntKind.i64.wrap (s1.tries + 1) = s1.tries + 1 := by rw [IntKind.wrap_i64]; omega
  rcases hd with d1 | ⟨d1, d2, d3⟩
  all_goals
    have hls : ∀ B ∈ snkP q s :: l, Stable B := stabC (snkP_stable _ _) hl
    have hz : Sts W (blkP w.heap.size (.cells zeroPdu 45 (0, 0)) :: snkP q s :: l) (w.alloc (.cells #[.int .i64 0, .int .i64 0, .int .i64 0, .int .i64 0, .string ⟨#[]⟩, .int .i64 0, .int .i64 0, .slice none 0 0, .int .u32 0, .int .i64 0, .slice none 0 0] 45)) := hs.alloc hls (.cells zeroPdu 45 (0, 0))
    have hbl : ∀ B ∈ blkP w.heap.size (.cells zeroPdu 45 (0, 0)) :: l, Stable B := stabC (blkP_stable _ _) hl
    have hP := cAdv hbl q s hz.swap now
    rw [hp1] at hP
    have HP := hid hP
    have hk0 : (w.alloc (.cells #[.int .i64 0, .int .i64 0, .int .i64 0, .int .i64 0, .string ⟨#[]⟩, .int .i64 0, .int .i64 0, .slice none 0 0, .int .u32 0, .int .i64 0, .slice none 0 0] 45)).cell? ⟨q, 0, none⟩ = some (.bool true) := by obtain ⟨dv, gv, h⟩ := Sts.openSnk hz.swap; exact (Sts.snkC h).k0
    have HVL := hid (cVal _ q hk0)
    have HL := hid hl
    clear hP hz hs hls hbl hl hk0 hp1
    have HMT : Hid (({ s1 with tries := s1.tries + 1, timer := s1.now, nak := false } : Fil.Snk).missT = (t : Int)) := hid hmt
    have HMT1 := hid hmt
    have HNG := hid hng
    clear hT hmt hng hy
    go_enter Try.func44, Try.ntmps44
    go_wp2_with (first | (go_at_call 81; refine HVL.out.mono ?_; rintro e w2 ⟨rfl, rfl⟩) | (go_at_call 82; refine HP.out.mono ?_; rintro e w1 ⟨rfl, h1⟩; have HO := hid h1; obtain ⟨dv, gv, h⟩ := Sts.openSnk h1; have HS := hid h; have HSN : Hid (∀ n, Sts W (blkP q (.cells (s1.cells dv gv) 109 (0, 0)) :: rowP 5 1 dv (s1).data.length (u8s (s1).data) :: rowP 81 2 gv (s1).got.length (Fil.rcells (s1).got) :: blkP w.heap.size (.cells zeroPdu 45 (0, 0)) :: l) (w1.drewN n)) := hid (fun n => h.quiet (stabC (blkP_stable _ _) (stabC (rowP_stable _ _ _ _ _) (stabC (rowP_stable _ _ _ _ _) (stabC (blkP_stable _ _) HL.out)))) (below_drewN (Below.refl _ _) n)); have HON : Hid (∀ n, Sts W (snkP q s1 :: blkP w.heap.size (.cells zeroPdu 45 (0, 0)) :: l) (w1.drewN n)) := hid (fun n => h1.quiet (stabC (snkP_stable _ _) (stabC (blkP_stable _ _) HL.out)) (below_drewN (Below.refl _ _) n)); have hC := Sts.snkC h; have k5 := hC.k5; have k6 := hC.k6; have k7 := hC.k7; have k8 := hC.k8; have k10 := hC.k10; have k14 := hC.k14; have k19 := hC.k19; have k20 := hC.k20; have k21 := hC.k21; have k22 := hC.k22; (try dsimp only at k5 k6 k7 k8 k10 k14 k19 k20 k21 k22); rw [c1] at k10; rw [c2] at k21; rw [c8] at k8; clear hC h h1))
    go_quiet (fail)
    go_wp2_with fail
    go_quiet (fail)
    go_wp2_with (first | (refine wpList_cell (HSN.out _) (stabC (rowP_stable _ _ _ _ _) (stabC (rowP_stable _ _ _ _ _) (stabC (blkP_stable _ _) HL.out))) rfl (.tmp 70) (.tmp 68) 3 rfl 20 (.int .i64 (s1.tries + 1)) rfl rfl szIntK (show 20 < 25 by decide) rfl ?_; intro w3 hz; replace hz : Sts W (blkP q (.cells (({ s1 with tries := s1.tries + 1 }).cells dv gv) 109 (0, 0)) :: rowP 5 1 dv (s1).data.length (u8s (s1).data) :: rowP 81 2 gv (s1).got.length (Fil.rcells (s1).got) :: blkP w.heap.size (.cells zeroPdu 45 (0, 0)) :: l) w3 := hz; have H1 := hid hz; clear k7; have k7 := (Sts.snkC hz).k7; (try dsimp only at k7); clear hz) | (refine wpList_cell H1.out (stabC (rowP_stable _ _ _ _ _) (stabC (rowP_stable _ _ _ _ _) (stabC (blkP_stable _ _) HL.out))) rfl (.tmp 77) (.tmp 75) 3 rfl 19 (.int .i64 s1.now) rfl rfl szIntK (show 19 < 25 by decide) rfl ?_; intro w4 hz; replace hz : Sts W (blkP q (.cells (({ s1 with tries := s1.tries + 1, timer := s1.now }).cells dv gv) 109 (0, 0)) :: rowP 5 1 dv (s1).data.length (u8s (s1).data) :: rowP 81 2 gv (s1).got.length (Fil.rcells (s1).got) :: blkP w.heap.size (.cells zeroPdu 45 (0, 0)) :: l) w4 := hz; have H2 := hid hz; clear k22 k14; have k22 := (Sts.snkC hz).k22; have k14 := (Sts.snkC hz).k14; (try dsimp only at k22 k14); (try rw [d1] at k22); (try rw [d2] at k14); have HA := hid (cAckd q { s1 with tries := s1.tries + 1, timer := s1.now } (Sts.shutSnk (s := { s1 with tries := s1.tries + 1, timer := s1.now }) (dv := dv) (gv := gv) hz)); clear hz) | (go_at_call 91; refine HA.out.mono ?_; rintro e w5 ⟨rfl, rfl⟩; rw [show ({ s1 with tries := s1.tries + 1, timer := s1.now } : Fil.Snk).cls = s1.cls from rfl, d3]) | (refine wpList_cell H2.out (stabC (rowP_stable _ _ _ _ _) (stabC (rowP_stable _ _ _ _ _) (stabC (blkP_stable _ _) HL.out))) rfl (.tmp 94) (.tmp 92) 4 rfl 22 (.bool true) rfl rfl szBoolK (show 22 < 25 by decide) rfl ?_; intro w6 hz; replace hz : Sts W (blkP q (.cells (({ s1 with tries := s1.tries + 1, timer := s1.now, nak := true }).cells dv gv) 109 (0, 0)) :: rowP 5 1 dv (s1).data.length (u8s (s1).data) :: rowP 81 2 gv (s1).got.length (Fil.rcells (s1).got) :: blkP w.heap.size (.cells zeroPdu 45 (0, 0)) :: l) w6 := hz; have H3 := hid hz; clear k22 k8; have k22 := (Sts.snkC hz).k22; have k8 := (Sts.snkC hz).k8; (try dsimp only at k22 k8); rw [c8] at k8; clear hz) | (refine wpList_cell H3.out (stabC (rowP_stable _ _ _ _ _) (stabC (rowP_stable _ _ _ _ _) (stabC (blkP_stable _ _) HL.out))) rfl (.tmp 126) (.const (.bool false)) 4 rfl 22 (.bool false) rfl rfl szBoolK (show 22 < 25 by decide) rfl ?_; intro w7 hz; replace hz : Sts W (blkP q (.cells (({ s1 with tries := s1.tries + 1, timer := s1.now, nak := false }).cells dv gv) 109 (0, 0)) :: rowP 5 1 dv (s1).data.length (u8s (s1).data) :: rowP 81 2 gv (s1).got.length (Fil.rcells (s1).got) :: blkP w.heap.size (.cells zeroPdu 45 (0, 0)) :: l) w7 := hz; have H5 := hid hz; have HU := hid (cUnitK (stabC (blkP_stable _ _) HL.out) q { s1 with tries := s1.tries + 1, timer := s1.now, nak := false } (Sts.shutSnk (s := { s1 with tries := s1.tries + 1, timer := s1.now, nak := false }) (dv := dv) (gv := gv) hz) 4); clear hz) | (go_at_call 89; refine HU.out.mono ?_; rintro e w8 ⟨rfl, hw⟩; have HQ := hid (hw.alloc (stabC (snkP_stable _ _) (stabC (blkP_stable _ _) HL.out)) (.cells zeroPdu 45 (0, 0))); clear hw) | (refine wpList_agg HQ.out (stabC (snkP_stable _ _) (stabC (blkP_stable _ _) HL.out)) rfl (.tmp 6) (.tmp 128) 45 rfl (Fil.Snk.unitP { s1 with tries := s1.tries + 1, timer := s1.now, nak := false } 4).cells rfl rfl sizePdu rfl rfl ?_; intro w9 hz; generalize hb6 : w8.heap.size = b6 at *; replace hz : Sts W (blkP b6 (.cells #[.int .i64 4, .int .i64 s1.src, .int .i64 s1.num, .int .i64 0, .string ⟨#[]⟩, .int .i64 0, .int .i64 0, .slice none 0 0, .int .u32 0, .int .i64 0, (.slice none 0 0)] 45 (0, 0)) :: snkP q { s1 with tries := s1.tries + 1, timer := s1.now, nak := false } :: blkP w.heap.size (.cells zeroPdu 45 (0, 0)) :: l) w9 := hz; have HR := hid ((Sts.rowNilK 81 2 hz)); have g10 := (Sts.boxCell hz 10 _ rfl).1; have k11 := (show w9.cell? ⟨q, 11, none⟩ = some (.bool s1.named) by obtain ⟨dv5, gv5, h5⟩ := Sts.openSnk hz.tail; exact (Sts.snkC h5).k11); rw [c11] at k11; have HAL := hid ((Sts.rowNilK 81 2 hz).alloc (stabC (rowP_stable _ _ _ _ _) (stabC (blkP_stable _ _) (stabC (snkP_stable _ _) (stabC (blkP_stable _ _) HL.out)))) (.cells #[.int .i64 0, .int .i64 0] 81 (0, 0))).tail; clear hz hb6 HQ HU H5))
    have HC2 := hid (HR.out.swap)
    have hMS := cMissK (stabC (blkP_stable _ _) (stabC (rowP_stable _ _ _ _ _) (stabC (blkP_stable _ _) HL.out))) q { s1 with tries := s1.tries + 1, timer := s1.now, nak := false } HC2.out.third t HMT.out htb HNG.out
    refine hMS.mono ?_
    rintro e w12 ⟨r, rfl, hN⟩
    have hH := Sts.newR (stabC (blkP_stable _ _) (stabC (rowP_stable _ _ _ _ _) (stabC (snkP_stable _ _) (stabC (blkP_stable _ _) HL.out)))) HC2.out hN
    obtain ⟨ma, mc, hr⟩ := hN.rd.eq
    subst hr
    have HMG : Hid (Rng.missV ({ s1 with tries := s1.tries + 1, timer := s1.now, nak := false } : Fil.Snk).got t = Rng.missV s1.got t) := rfl
    rw [HMG.out] at hH
    have hMl := Rng.valid_len' (Rng.missV_mem s1.got t).1 (b := (t : Int)) (by omega) (fun m hm => (((Rng.missV_mem s1.got t).2 m).1 hm).1)
    generalize hM : Rng.missV s1.got t = M at *
    replace hMl : M.length ≤ 100000 := by omega
    have HMM := hid hM
    have HD := hid hH.third'
    clear hH hN hM hMS HC2 HMG
    go_wp2_with fail
    go_loopw [143] (fun i wr => ∃ (k : Nat) (gv : Value), k ≤ M.length ∧ i = .int .i64 k ∧ Sts W (blkP b6 (.cells #[.int .i64 4, .int .i64 s1.src, .int .i64 s1.num, .int .i64 0, .string ⟨#[]⟩, .int .i64 0, .int .i64 0, .slice none 0 0, .int .u32 0, .int .i64 0, gv] 45 (0, 0)) :: rowP 81 2 gv (([] ++ M.take k).take 16).length (Fil.rcells (([] ++ M.take k).take 16)) :: rowP 81 2 (.slice ma M.length mc) (M).length (Fil.rcells (M)) :: snkP q { s1 with tries := s1.tries + 1, timer := s1.now, nak := false } :: blkP w.heap.size (.cells zeroPdu 45 (0, 0)) :: l) wr) (fun i _ => M.length - (intOf i).toNat)
    case atStart => exact ⟨0, _, by omega, rfl, HD.out⟩
    case round =>
      obtain ⟨k, gv, hk, rfl, hS⟩ := hrel
      obtain ⟨ga, gc, hge⟩ := (RdR.of_own (Sts.rowOwnK hS.tail) rfl).eq
      subst hge
      have HS9 := hid hS
      have g10 := (Sts.boxCell hS 10 _ rfl).1
      obtain ⟨ma2, mc2, hme, hcap, hx⟩ := (RdR.of_own (Sts.rowOwnK hS.tail.tail) rfl : RdR wr (.slice ma M.length mc) M)
      injection hme with hm1 hm2 hm3
      subst hm1
      subst hm3
      clear hS hm2 hcap HD
      by_cases hlt : k < M.length
      · obtain ⟨b, off, rfl, hb, x0, x1⟩ := hx k hlt
        have HX0 := hid hx
        have HTA := hid (Fil.take16_a [] M k hlt)
        have HTB := hid (Fil.take16_b [] M k)
        generalize M[k] = rr at *
        obtain ⟨r1, r2⟩ := rr
        simp only [] at x0 x1
        generalize hgk : ([] ++ M.take k).take 16 = gk at *
        have HBX := hid (HS9.out.alloc (stabC (blkP_stable _ _) (stabC (rowP_stable _ _ _ _ _) (stabC (rowP_stable _ _ _ _ _) (stabC (snkP_stable _ _) (stabC (blkP_stable _ _) HL.out))))) (.cells #[.int .i64 0, .int .i64 0] 81 (0, 0)))
        clear hgk hb hx
        obtain ⟨g2, hg2⟩ : ∃ g2, gk ++ [(r1, r2)] = g2 := ⟨_, rfl⟩
        have HG2 := hid hg2
        clear hg2
        by_cases h16 : gk.length < 16
        · have h16d : decide (gk.length < 16) = true := decide_eq_true h16
          have h16i : (gk.length : Int) < 16 := by omega
          have h16j : decide ((gk.length : Int) < 16) = true := decide_eq_true h16i
          go_wp2_with (first | (refine wpList_agg HBX.out (stabC (blkP_stable _ _) (stabC (rowP_stable _ _ _ _ _) (stabC (rowP_stable _ _ _ _ _) (stabC (snkP_stable _ _) (stabC (blkP_stable _ _) HL.out))))) rfl (.tmp 8) (.tmp 146) 81 rfl #[.int .i64 r1, .int .i64 r2] rfl rfl sizeR rfl rfl ?_; intro w13 hz; have HY := hid hz; clear g10; have g10 := (Sts.boxCell hz.tail 10 _ rfl).1; have HYA := hid (hz.third.alloc (stabC (rowP_stable _ _ _ _ _) (stabC (blkP_stable _ _) (stabC (blkP_stable _ _) (stabC (rowP_stable _ _ _ _ _) (stabC (snkP_stable _ _) (stabC (blkP_stable _ _) HL.out)))))) (.cells #[.int .i64 r1, .int .i64 r2] 81 (0, 0))).tail; clear hz HBX x0 x1) | (refine wpList_ld2 rfl (.tmp 8) 81 rfl rfl (.agg #[.int .i64 r1, .int .i64 r2]) (ldRng rfl HY.out) ?_) | (at_builtin; refine wpList_appendR (l := gk) rfl (.tmp 152) (.tmp 154) rfl HYA (stabC (blkP_stable _ _) (stabC (blkP_stable _ _) (stabC (rowP_stable _ _ _ _ _) (stabC (snkP_stable _ _) (stabC (blkP_stable _ _) HL.out))))) rfl _ rfl (rdR_one _ r1 r2) (by simp; omega) ?_; intro v2 w14 hz; rw [HG2.out] at hz; obtain ⟨va2, vc2, hv2⟩ := (RdR.of_own (Sts.rowOwnK hz) rfl).eq; subst hv2; have HE := hid hz.third; clear hz g10) | (refine wpList_cell HE.out (stabC (rowP_stable _ _ _ _ _) (stabC (blkP_stable _ _) (stabC (rowP_stable _ _ _ _ _) (stabC (snkP_stable _ _) (stabC (blkP_stable _ _) HL.out))))) rfl (.tmp 156) (.tmp 155) 36 rfl 10 (.slice va2 g2.length vc2) rfl rfl szRngK (show 10 < 11 by decide) rfl ?_; intro w15 hz; have HG := hid hz; clear hz HE))
          go_roundw
          case rel => exact ⟨k + 1, _, by omega, by go_num, by rw [HTA.out h16, HG2.out]; exact HG.out.third.tail⟩
          case measure => simp [intOf]; omega
        · have h16d : decide (gk.length < 16) = false := decide_eq_false h16
          have h16i : ¬ (gk.length : Int) < 16 := by omega
          have h16j : decide ((gk.length : Int) < 16) = false := decide_eq_false h16i
          go_wp2_with (first | (refine wpList_agg HBX.out (stabC (blkP_stable _ _) (stabC (rowP_stable _ _ _ _ _) (stabC (rowP_stable _ _ _ _ _) (stabC (snkP_stable _ _) (stabC (blkP_stable _ _) HL.out))))) rfl (.tmp 8) (.tmp 146) 81 rfl #[.int .i64 r1, .int .i64 r2] rfl rfl sizeR rfl rfl ?_; intro w13 hz; have HY := hid hz; clear g10; have g10 := (Sts.boxCell hz.tail 10 _ rfl).1; have HYA := hid (hz.third.alloc (stabC (rowP_stable _ _ _ _ _) (stabC (blkP_stable _ _) (stabC (blkP_stable _ _) (stabC (rowP_stable _ _ _ _ _) (stabC (snkP_stable _ _) (stabC (blkP_stable _ _) HL.out)))))) (.cells #[.int .i64 r1, .int .i64 r2] 81 (0, 0))).tail; clear hz HBX x0 x1) | (refine wpList_ld2 rfl (.tmp 8) 81 rfl rfl (.agg #[.int .i64 r1, .int .i64 r2]) (ldRng rfl HY.out) ?_) | (at_builtin; refine wpList_appendR (l := gk) rfl (.tmp 152) (.tmp 154) rfl HYA (stabC (blkP_stable _ _) (stabC (blkP_stable _ _) (stabC (rowP_stable _ _ _ _ _) (stabC (snkP_stable _ _) (stabC (blkP_stable _ _) HL.out))))) rfl _ rfl (rdR_one _ r1 r2) (by simp; omega) ?_; intro v2 w14 hz; rw [HG2.out] at hz; obtain ⟨va2, vc2, hv2⟩ := (RdR.of_own (Sts.rowOwnK hz) rfl).eq; subst hv2; have HE := hid hz.third; clear hz g10) | (refine wpList_cell HE.out (stabC (rowP_stable _ _ _ _ _) (stabC (blkP_stable _ _) (stabC (rowP_stable _ _ _ _ _) (stabC (snkP_stable _ _) (stabC (blkP_stable _ _) HL.out))))) rfl (.tmp 156) (.tmp 155) 36 rfl 10 (.slice va2 g2.length vc2) rfl rfl szRngK (show 10 < 11 by decide) rfl ?_; intro w15 hz; have HG := hid hz; clear hz HE))
          go_roundw
          case rel => exact ⟨k + 1, _, by omega, by go_num, by rw [HTB.out h16]; exact HY.out.tail⟩
          case measure => simp [intOf]; omega
      · obtain rfl : M.length = k := by omega
        have hgv : ([] ++ M.take M.length).take 16 = G9 := by
          rw [← HG9.out]
          unfold Fil.Snk.gapsV
          rw [List.take_length, c11, HMT1.out, HMM.out]
          rfl
        rw [hgv] at HS9
        have HZ4 := hid (HS9.out.perm (List.perm_middle (l₁ := [_, _, _, _]) (l₂ := l)))
        clear hgv g10 hx
        go_wp2_with (first | (refine wpList_ld2 rfl (.tmp 6) 45 rfl rfl (.agg #[.int .i64 4, .int .i64 s1.src, .int .i64 s1.num, .int .i64 0, .string ⟨#[]⟩, .int .i64 0, .int .i64 0, .slice none 0 0, .int .u32 0, .int .i64 0, .slice ga G9.length gc]) (ldPdu rfl HS9.out) ?_) | (refine wpList_agg HZ4.out (stabC (blkP_stable _ _) (stabC (rowP_stable _ _ _ _ _) (stabC (rowP_stable _ _ _ _ _) (stabC (snkP_stable _ _) HL.out)))) rfl (.tmp 4) (.tmp 158) 45 rfl #[.int .i64 4, .int .i64 s1.src, .int .i64 s1.num, .int .i64 0, .string ⟨#[]⟩, .int .i64 0, .int .i64 0, .slice none 0 0, .int .u32 0, .int .i64 0, .slice ga G9.length gc] rfl rfl sizePdu rfl rfl ?_; intro w16 hz; have HF := hid hz; clear hz))
        exact post_cell2 HF.out Try.results44 rfl rfl (ldPdu rfl HF.out) (.bool true) rfl ⟨ga, gc, rfl, by rw [← HR9.out]; exact HF.out.tail.tail.swap.tail.swap⟩
set_option maxRecDepth 100000 in
set_option maxHeartbeats 4000000 in
theorem cNxtAgainNB (c1 : s1.susp = false) (c2 : s1.ack = false) (hT : 0 ≤ s1.timer + s1.timeout ∧ s1.timer + s1.timeout < 4611686018427387904) (c8 : s1.phase = 0) (ht : decide (s1.timer + s1.timeout ≤ s1.now) = true) (hq : (s1.tries == s1.retries) = false) (hy : 0 ≤ s1.tries ∧ s1.tries < 1000000) (hd : s1.nak = true ∨ (s1.nak = false ∧ s1.fin = true ∧ (s1.cls == 2) = true)) (c11 : s1.named = false) (t : Nat) (hmt : s1.missT = (t : Int)) (htb : t ≤ 100000) (hng : s1.got.length < 1000000) (s9 : Fil.Snk) (hs9 : { s1 with tries := s1.tries + 1, timer := s1.now, nak := false } = s9) (G9 : List Rng.R) (hg9 : s1.gapsV = G9) : Calls Try.prog 44 #[.pointer (some ⟨q, 0, none⟩), .int .i64 now] w fun e w' => ∃ ga gc, e = .returned (.tuple #[.agg ({ kind := 4, src := s1.src, num := s1.num, ga := ga, gaps := G9, gc := gc } : Fil.Pdu).cells, .bool true]) ∧ Sts W (snkP q s9 :: rowP 81 2 (.slice ga G9.length gc) G9.length (Fil.rcells G9) :: l) w' := by
  have HR9 := hid hs9
  have HG9 := hid hg9
  clear hs9 hg9
  have hwr : IntKind.i64.wrap (s1.timer + s1.timeout) = s1.timer + s1.timeout := by rw [IntKind.wrap_i64]; omega
  have hwy : IntKind.i64.wrap (s1.tries + 1) = s1.tries + 1 := by rw [IntKind.wrap_i64]; omega
  rcases hd with d1 | ⟨d1, d2, d3⟩
  all_goals
    have hls : ∀ B ∈ snkP q s :: l, Stable B := stabC (snkP_stable _ _) hl
    have hz : Sts W (blkP w.heap.size (.cells zeroPdu 45 (0, 0)) :: snkP q s :: l) (w.alloc (.cells #[.int .i64 0, .int .i64 0, .int .i64 0, .int .i64 0, .string ⟨#[]⟩, .int .i64 0, .int .i64 0, .slice none 0 0, .int .u32 0, .int .i64 0, .slice none 0 0] 45)) := hs.alloc hls (.cells zeroPdu 45 (0, 0))
    have hbl : ∀ B ∈ blkP w.heap.size (.cells zeroPdu 45 (0, 0)) :: l, Stable B := stabC (blkP_stable _ _) hl
    have hP := cAdv hbl q s hz.swap now
    rw [hp1] at hP
    have HP := hid hP
    have hk0 : (w.alloc (.cells #[.int .i64 0, .int .i64 0, .int .i64 0, .int .i64 0, .string ⟨#[]⟩, .int .i64 0, .int .i64 0, .slice none 0 0, .int .u32 0, .int .i64 0, .slice none 0 0] 45)).cell? ⟨q, 0, none⟩ = some (.bool true) := by obtain ⟨dv, gv, h⟩ := Sts.openSnk hz.swap; exact (Sts.snkC h).k0
    have HVL := hid (cVal _ q hk0)
    have HL := hid hl
    clear hP hz hs hls hbl hl hk0 hp1
    have HMT : Hid (({ s1 with tries := s1.tries + 1, timer := s1.now, nak := false } : Fil.Snk).missT = (t : Int)) := hid hmt
    have HMT1 := hid hmt
    have HNG := hid hng
    clear hT hmt hng hy
    go_enter Try.func44, Try.ntmps44
    go_wp2_with (first | (go_at_call 81; refine HVL.out.mono ?_; rintro e w2 ⟨rfl, rfl⟩) | (go_at_call 82; refine HP.out.mono ?_; rintro e w1 ⟨rfl, h1⟩; have HO := hid h1; obtain ⟨dv, gv, h⟩ := Sts.openSnk h1; have HS := hid h; have HSN : Hid (∀ n, Sts W (blkP q (.cells (s1.cells dv gv) 109 (0, 0)) :: rowP 5 1 dv (s1).data.length (u8s (s1).data) :: rowP 81 2 gv (s1).got.length (Fil.rcells (s1).got) :: blkP w.heap.size (.cells zeroPdu 45 (0, 0)) :: l) (w1.drewN n)) := hid (fun n => h.quiet (stabC (blkP_stable _ _) (stabC (rowP_stable _ _ _ _ _) (stabC (rowP_stable _ _ _ _ _) (stabC (blkP_stable _ _) HL.out)))) (below_drewN (Below.refl _ _) n)); have HON : Hid (∀ n, Sts W (snkP q s1 :: blkP w.heap.size (.cells zeroPdu 45 (0, 0)) :: l) (w1.drewN n)) := hid (fun n => h1.quiet (stabC (snkP_stable _ _) (stabC (blkP_stable _ _) HL.out)) (below_drewN (Below.refl _ _) n)); have hC := Sts.snkC h; have k5 := hC.k5; have k6 := hC.k6; have k7 := hC.k7; have k8 := hC.k8; have k10 := hC.k10; have k14 := hC.k14; have k19 := hC.k19; have k20 := hC.k20; have k21 := hC.k21; have k22 := hC.k22; (try dsimp only at k5 k6 k7 k8 k10 k14 k19 k20 k21 k22); rw [c1] at k10; rw [c2] at k21; rw [c8] at k8; clear hC h h1))
    go_quiet (fail)
    go_wp2_with fail
    go_quiet (fail)
    go_wp2_with (first | (refine wpList_cell (HSN.out _) (stabC (rowP_stable _ _ _ _ _) (stabC (rowP_stable _ _ _ _ _) (stabC (blkP_stable _ _) HL.out))) rfl (.tmp 70) (.tmp 68) 3 rfl 20 (.int .i64 (s1.tries + 1)) rfl rfl szIntK (show 20 < 25 by decide) rfl ?_; intro w3 hz; replace hz : Sts W (blkP q (.cells (({ s1 with tries := s1.tries + 1 }).cells dv gv) 109 (0, 0)) :: rowP 5 1 dv (s1).data.length (u8s (s1).data) :: rowP 81 2 gv (s1).got.length (Fil.rcells (s1).got) :: blkP w.heap.size (.cells zeroPdu 45 (0, 0)) :: l) w3 := hz; have H1 := hid hz; clear k7; have k7 := (Sts.snkC hz).k7; (try dsimp only at k7); clear hz) | (refine wpList_cell H1.out (stabC (rowP_stable _ _ _ _ _) (stabC (rowP_stable _ _ _ _ _) (stabC (blkP_stable _ _) HL.out))) rfl (.tmp 77) (.tmp 75) 3 rfl 19 (.int .i64 s1.now) rfl rfl szIntK (show 19 < 25 by decide) rfl ?_; intro w4 hz; replace hz : Sts W (blkP q (.cells (({ s1 with tries := s1.tries + 1, timer := s1.now }).cells dv gv) 109 (0, 0)) :: rowP 5 1 dv (s1).data.length (u8s (s1).data) :: rowP 81 2 gv (s1).got.length (Fil.rcells (s1).got) :: blkP w.heap.size (.cells zeroPdu 45 (0, 0)) :: l) w4 := hz; have H2 := hid hz; clear k22 k14; have k22 := (Sts.snkC hz).k22; have k14 := (Sts.snkC hz).k14; (try dsimp only at k22 k14); (try rw [d1] at k22); (try rw [d2] at k14); have HA := hid (cAckd q { s1 with tries := s1.tries + 1, timer := s1.now } (Sts.shutSnk (s := { s1 with tries := s1.tries + 1, timer := s1.now }) (dv := dv) (gv := gv) hz)); clear hz) | (go_at_call 91; refine HA.out.mono ?_; rintro e w5 ⟨rfl, rfl⟩; rw [show ({ s1 with tries := s1.tries + 1, timer := s1.now } : Fil.Snk).cls = s1.cls from rfl, d3]) | (refine wpList_cell H2.out (stabC (rowP_stable _ _ _ _ _) (stabC (rowP_stable _ _ _ _ _) (stabC (blkP_stable _ _) HL.out))) rfl (.tmp 94) (.tmp 92) 4 rfl 22 (.bool true) rfl rfl szBoolK (show 22 < 25 by decide) rfl ?_; intro w6 hz; replace hz : Sts W (blkP q (.cells (({ s1 with tries := s1.tries + 1, timer := s1.now, nak := true }).cells dv gv) 109 (0, 0)) :: rowP 5 1 dv (s1).data.length (u8s (s1).data) :: rowP 81 2 gv (s1).got.length (Fil.rcells (s1).got) :: blkP w.heap.size (.cells zeroPdu 45 (0, 0)) :: l) w6 := hz; have H3 := hid hz; clear k22 k8; have k22 := (Sts.snkC hz).k22; have k8 := (Sts.snkC hz).k8; (try dsimp only at k22 k8); rw [c8] at k8; clear hz) | (refine wpList_cell H3.out (stabC (rowP_stable _ _ _ _ _) (stabC (rowP_stable _ _ _ _ _) (stabC (blkP_stable _ _) HL.out))) rfl (.tmp 126) (.const (.bool false)) 4 rfl 22 (.bool false) rfl rfl szBoolK (show 22 < 25 by decide) rfl ?_; intro w7 hz; replace hz : Sts W (blkP q (.cells (({ s1 with tries := s1.tries + 1, timer := s1.now, nak := false }).cells dv gv) 109 (0, 0)) :: rowP 5 1 dv (s1).data.length (u8s (s1).data) :: rowP 81 2 gv (s1).got.length (Fil.rcells (s1).got) :: blkP w.heap.size (.cells zeroPdu 45 (0, 0)) :: l) w7 := hz; have H5 := hid hz; have HU := hid (cUnitK (stabC (blkP_stable _ _) HL.out) q { s1 with tries := s1.tries + 1, timer := s1.now, nak := false } (Sts.shutSnk (s := { s1 with tries := s1.tries + 1, timer := s1.now, nak := false }) (dv := dv) (gv := gv) hz) 4); clear hz) | (go_at_call 89; refine HU.out.mono ?_; rintro e w8 ⟨rfl, hw⟩; have HQ := hid (hw.alloc (stabC (snkP_stable _ _) (stabC (blkP_stable _ _) HL.out)) (.cells zeroPdu 45 (0, 0))); clear hw) | (refine wpList_agg HQ.out (stabC (snkP_stable _ _) (stabC (blkP_stable _ _) HL.out)) rfl (.tmp 6) (.tmp 128) 45 rfl (Fil.Snk.unitP { s1 with tries := s1.tries + 1, timer := s1.now, nak := false } 4).cells rfl rfl sizePdu rfl rfl ?_; intro w9 hz; generalize hb6 : w8.heap.size = b6 at *; replace hz : Sts W (blkP b6 (.cells #[.int .i64 4, .int .i64 s1.src, .int .i64 s1.num, .int .i64 0, .string ⟨#[]⟩, .int .i64 0, .int .i64 0, .slice none 0 0, .int .u32 0, .int .i64 0, (.slice none 0 0)] 45 (0, 0)) :: snkP q { s1 with tries := s1.tries + 1, timer := s1.now, nak := false } :: blkP w.heap.size (.cells zeroPdu 45 (0, 0)) :: l) w9 := hz; have HR := hid ((Sts.rowNilK 81 2 hz)); have g10 := (Sts.boxCell hz 10 _ rfl).1; have k11 := (show w9.cell? ⟨q, 11, none⟩ = some (.bool s1.named) by obtain ⟨dv5, gv5, h5⟩ := Sts.openSnk hz.tail; exact (Sts.snkC h5).k11); rw [c11] at k11; have HAL := hid ((Sts.rowNilK 81 2 hz).alloc (stabC (rowP_stable _ _ _ _ _) (stabC (blkP_stable _ _) (stabC (snkP_stable _ _) (stabC (blkP_stable _ _) HL.out)))) (.cells #[.int .i64 0, .int .i64 0] 81 (0, 0))).tail; clear hz hb6 HQ HU H5) | (at_builtin; refine wpList_appendR (l := []) rfl (.tmp 135) (.tmp 137) rfl HAL (stabC (blkP_stable _ _) (stabC (snkP_stable _ _) (stabC (blkP_stable _ _) HL.out))) rfl _ rfl (rdR_one _ 0 0) (by simp) ?_; intro v1 w10 hz; obtain ⟨va, vc, hv⟩ := (RdR.of_own (Sts.rowOwnK hz) rfl).eq; subst hv; have HB := hid hz.swap; clear hz g10) | (refine wpList_cell HB.out (stabC (rowP_stable _ _ _ _ _) (stabC (snkP_stable _ _) (stabC (blkP_stable _ _) HL.out))) rfl (.tmp 139) (.tmp 138) 36 rfl 10 (.slice va 1 vc) rfl rfl szRngK (show 10 < 11 by decide) rfl ?_; intro w11 hz; replace hz : Sts W (blkP b6 (.cells #[.int .i64 4, .int .i64 s1.src, .int .i64 s1.num, .int .i64 0, .string ⟨#[]⟩, .int .i64 0, .int .i64 0, .slice none 0 0, .int .u32 0, .int .i64 0, (.slice va 1 vc)] 45 (0, 0)) :: rowP 81 2 (.slice va 1 vc) ([((0 : Int), (0 : Int))]).length (Fil.rcells ([((0 : Int), (0 : Int))])) :: snkP q { s1 with tries := s1.tries + 1, timer := s1.now, nak := false } :: blkP w.heap.size (.cells zeroPdu 45 (0, 0)) :: l) w11 := hz; have HC := hid hz; clear hz HB))
    have HC2 := hid (HC.out)
    have hMS := cMissK (stabC (blkP_stable _ _) (stabC (rowP_stable _ _ _ _ _) (stabC (blkP_stable _ _) HL.out))) q { s1 with tries := s1.tries + 1, timer := s1.now, nak := false } HC2.out.third t HMT.out htb HNG.out
    refine hMS.mono ?_
    rintro e w12 ⟨r, rfl, hN⟩
    have hH := Sts.newR (stabC (blkP_stable _ _) (stabC (rowP_stable _ _ _ _ _) (stabC (snkP_stable _ _) (stabC (blkP_stable _ _) HL.out)))) HC2.out hN
    obtain ⟨ma, mc, hr⟩ := hN.rd.eq
    subst hr
    have HMG : Hid (Rng.missV ({ s1 with tries := s1.tries + 1, timer := s1.now, nak := false } : Fil.Snk).got t = Rng.missV s1.got t) := rfl
    rw [HMG.out] at hH
    have hMl := Rng.valid_len' (Rng.missV_mem s1.got t).1 (b := (t : Int)) (by omega) (fun m hm => (((Rng.missV_mem s1.got t).2 m).1 hm).1)
    generalize hM : Rng.missV s1.got t = M at *
    replace hMl : M.length ≤ 100000 := by omega
    have HMM := hid hM
    have HD := hid hH.third'
    clear hH hN hM hMS HC2 HMG
    go_wp2_with fail
    go_loopw [143] (fun i wr => ∃ (k : Nat) (gv : Value), k ≤ M.length ∧ i = .int .i64 k ∧ Sts W (blkP b6 (.cells #[.int .i64 4, .int .i64 s1.src, .int .i64 s1.num, .int .i64 0, .string ⟨#[]⟩, .int .i64 0, .int .i64 0, .slice none 0 0, .int .u32 0, .int .i64 0, gv] 45 (0, 0)) :: rowP 81 2 gv (([((0 : Int), (0 : Int))] ++ M.take k).take 16).length (Fil.rcells (([((0 : Int), (0 : Int))] ++ M.take k).take 16)) :: rowP 81 2 (.slice ma M.length mc) (M).length (Fil.rcells (M)) :: snkP q { s1 with tries := s1.tries + 1, timer := s1.now, nak := false } :: blkP w.heap.size (.cells zeroPdu 45 (0, 0)) :: l) wr) (fun i _ => M.length - (intOf i).toNat)
    case atStart => exact ⟨0, _, by omega, rfl, HD.out⟩
    case round =>
      obtain ⟨k, gv, hk, rfl, hS⟩ := hrel
      obtain ⟨ga, gc, hge⟩ := (RdR.of_own (Sts.rowOwnK hS.tail) rfl).eq
      subst hge
      have HS9 := hid hS
      have g10 := (Sts.boxCell hS 10 _ rfl).1
      obtain ⟨ma2, mc2, hme, hcap, hx⟩ := (RdR.of_own (Sts.rowOwnK hS.tail.tail) rfl : RdR wr (.slice ma M.length mc) M)
      injection hme with hm1 hm2 hm3
      subst hm1
      subst hm3
      clear hS hm2 hcap HD
      by_cases hlt : k < M.length
      · obtain ⟨b, off, rfl, hb, x0, x1⟩ := hx k hlt
        have HX0 := hid hx
        have HTA := hid (Fil.take16_a [((0 : Int), (0 : Int))] M k hlt)
        have HTB := hid (Fil.take16_b [((0 : Int), (0 : Int))] M k)
        generalize M[k] = rr at *
        obtain ⟨r1, r2⟩ := rr
        simp only [] at x0 x1
        generalize hgk : ([((0 : Int), (0 : Int))] ++ M.take k).take 16 = gk at *
        have HBX := hid (HS9.out.alloc (stabC (blkP_stable _ _) (stabC (rowP_stable _ _ _ _ _) (stabC (rowP_stable _ _ _ _ _) (stabC (snkP_stable _ _) (stabC (blkP_stable _ _) HL.out))))) (.cells #[.int .i64 0, .int .i64 0] 81 (0, 0)))
        clear hgk hb hx
        obtain ⟨g2, hg2⟩ : ∃ g2, gk ++ [(r1, r2)] = g2 := ⟨_, rfl⟩
        have HG2 := hid hg2
        clear hg2
        by_cases h16 : gk.length < 16
        · have h16d : decide (gk.length < 16) = true := decide_eq_true h16
          have h16i : (gk.length : Int) < 16 := by omega
          have h16j : decide ((gk.length : Int) < 16) = true := decide_eq_true h16i
          go_wp2_with (first | (refine wpList_agg HBX.out (stabC (blkP_stable _ _) (stabC (rowP_stable _ _ _ _ _) (stabC (rowP_stable _ _ _ _ _) (stabC (snkP_stable _ _) (stabC (blkP_stable _ _) HL.out))))) rfl (.tmp 8) (.tmp 146) 81 rfl #[.int .i64 r1, .int .i64 r2] rfl rfl sizeR rfl rfl ?_; intro w13 hz; have HY := hid hz; clear g10; have g10 := (Sts.boxCell hz.tail 10 _ rfl).1; have HYA := hid (hz.third.alloc (stabC (rowP_stable _ _ _ _ _) (stabC (blkP_stable _ _) (stabC (blkP_stable _ _) (stabC (rowP_stable _ _ _ _ _) (stabC (snkP_stable _ _) (stabC (blkP_stable _ _) HL.out)))))) (.cells #[.int .i64 r1, .int .i64 r2] 81 (0, 0))).tail; clear hz HBX x0 x1) | (refine wpList_ld2 rfl (.tmp 8) 81 rfl rfl (.agg #[.int .i64 r1, .int .i64 r2]) (ldRng rfl HY.out) ?_) | (at_builtin; refine wpList_appendR (l := gk) rfl (.tmp 152) (.tmp 154) rfl HYA (stabC (blkP_stable _ _) (stabC (blkP_stable _ _) (stabC (rowP_stable _ _ _ _ _) (stabC (snkP_stable _ _) (stabC (blkP_stable _ _) HL.out))))) rfl _ rfl (rdR_one _ r1 r2) (by simp; omega) ?_; intro v2 w14 hz; rw [HG2.out] at hz; obtain ⟨va2, vc2, hv2⟩ := (RdR.of_own (Sts.rowOwnK hz) rfl).eq; subst hv2; have HE := hid hz.third; clear hz g10) | (refine wpList_cell HE.out (stabC (rowP_stable _ _ _ _ _) (stabC (blkP_stable _ _) (stabC (rowP_stable _ _ _ _ _) (stabC (snkP_stable _ _) (stabC (blkP_stable _ _) HL.out))))) rfl (.tmp 156) (.tmp 155) 36 rfl 10 (.slice va2 g2.length vc2) rfl rfl szRngK (show 10 < 11 by decide) rfl ?_; intro w15 hz; have HG := hid hz; clear hz HE))
          go_roundw
          case rel => exact ⟨k + 1, _, by omega, by go_num, by rw [HTA.out h16, HG2.out]; exact HG.out.third.tail⟩
          case measure => simp [intOf]; omega
        · have h16d : decide (gk.length < 16) = false := decide_eq_false h16
          have h16i : ¬ (gk.length : Int) < 16 := by omega
          have h16j : decide ((gk.length : Int) < 16) = false := decide_eq_false h16i
          go_wp2_with (first | (refine wpList_agg HBX.out (stabC (blkP_stable _ _) (stabC (rowP_stable _ _ _ _ _) (stabC (rowP_stable _ _ _ _ _) (stabC (snkP_stable _ _) (stabC (blkP_stable _ _) HL.out))))) rfl (.tmp 8) (.tmp 146) 81 rfl #[.int .i64 r1, .int .i64 r2] rfl rfl sizeR rfl rfl ?_; intro w13 hz; have HY := hid hz; clear g10; have g10 := (Sts.boxCell hz.tail 10 _ rfl).1; have HYA := hid (hz.third.alloc (stabC (rowP_stable _ _ _ _ _) (stabC (blkP_stable _ _) (stabC (blkP_stable _ _) (stabC (rowP_stable _ _ _ _ _) (stabC (snkP_stable _ _) (stabC (blkP_stable _ _) HL.out)))))) (.cells #[.int .i64 r1, .int .i64 r2] 81 (0, 0))).tail; clear hz HBX x0 x1) | (refine wpList_ld2 rfl (.tmp 8) 81 rfl rfl (.agg #[.int .i64 r1, .int .i64 r2]) (ldRng rfl HY.out) ?_) | (at_builtin; refine wpList_appendR (l := gk) rfl (.tmp 152) (.tmp 154) rfl HYA (stabC (blkP_stable _ _) (stabC (blkP_stable _ _) (stabC (rowP_stable _ _ _ _ _) (stabC (snkP_stable _ _) (stabC (blkP_stable _ _) HL.out))))) rfl _ rfl (rdR_one _ r1 r2) (by simp; omega) ?_; intro v2 w14 hz; rw [HG2.out] at hz; obtain ⟨va2, vc2, hv2⟩ := (RdR.of_own (Sts.rowOwnK hz) rfl).eq; subst hv2; have HE := hid hz.third; clear hz g10) | (refine wpList_cell HE.out (stabC (rowP_stable _ _ _ _ _) (stabC (blkP_stable _ _) (stabC (rowP_stable _ _ _ _ _) (stabC (snkP_stable _ _) (stabC (blkP_stable _ _) HL.out))))) rfl (.tmp 156) (.tmp 155) 36 rfl 10 (.slice va2 g2.length vc2) rfl rfl szRngK (show 10 < 11 by decide) rfl ?_; intro w15 hz; have HG := hid hz; clear hz HE))
          go_roundw
          case rel => exact ⟨k + 1, _, by omega, by go_num, by rw [HTB.out h16]; exact HY.out.tail⟩
          case measure => simp [intOf]; omega
      · obtain rfl : M.length = k := by omega
        have hgv : ([((0 : Int), (0 : Int))] ++ M.take M.length).take 16 = G9 := by
          rw [← HG9.out]
          unfold Fil.Snk.gapsV
          rw [List.take_length, c11, HMT1.out, HMM.out]
          rfl
        rw [hgv] at HS9
        have HZ4 := hid (HS9.out.perm (List.perm_middle (l₁ := [_, _, _, _]) (l₂ := l)))
        clear hgv g10 hx
        go_wp2_with (first | (refine wpList_ld2 rfl (.tmp 6) 45 rfl rfl (.agg #[.int .i64 4, .int .i64 s1.src, .int .i64 s1.num, .int .i64 0, .string ⟨#[]⟩, .int .i64 0, .int .i64 0, .slice none 0 0, .int .u32 0, .int .i64 0, .slice ga G9.length gc]) (ldPdu rfl HS9.out) ?_) | (refine wpList_agg HZ4.out (stabC (blkP_stable _ _) (stabC (rowP_stable _ _ _ _ _) (stabC (rowP_stable _ _ _ _ _) (stabC (snkP_stable _ _) HL.out)))) rfl (.tmp 4) (.tmp 158) 45 rfl #[.int .i64 4, .int .i64 s1.src, .int .i64 s1.num, .int .i64 0, .string ⟨#[]⟩, .int .i64 0, .int .i64 0, .slice none 0 0, .int .u32 0, .int .i64 0, .slice ga G9.length gc] rfl rfl sizePdu rfl rfl ?_; intro w16 hz; have HF := hid hz; clear hz))
        exact post_cell2 HF.out Try.results44 rfl rfl (ldPdu rfl HF.out) (.bool true) rfl ⟨ga, gc, rfl, by rw [← HR9.out]; exact HF.out.tail.tail.swap.tail.swap⟩
end
end Go.Proofs.Ytfjadhkhmhnccaa
