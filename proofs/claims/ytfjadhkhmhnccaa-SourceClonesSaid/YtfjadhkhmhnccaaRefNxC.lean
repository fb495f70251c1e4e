/- The specification's Next, branch by branch. The specification's Next, the branches of the requested bytes and of the repeated Eof; Cancel. The specification's Next at requested bytes. The specification's Cancel. -/
import Derived.Test.YtfjadhkhmhnccaaRefSnd
set_option linter.unusedVariables false
set_option linter.unusedSimpArgs false
namespace Go.Proofs.Ytfjadhkhmhnccaa
open Go.RowKit Go.Proofs.Num
section
variable {W w : World} {l : List HProp} (hl : ∀ B ∈ l, Stable B) (zh : Value × List Rng.R) (q : Nat) (s s1 : Fil.Src) (da : Option Addr) (dc : Nat) (hs : Sts W (refP zh q s (.slice da s.data.length dc) :: l) w) (now : Int) (hp1 : s.pass now = s1) (hz0 : (s.phase + 1 == 0) = false) (hdl : s.data.length = s1.data.length)
include hl hs hp1 hz0 hdl
set_option maxRecDepth 100000 in
set_option maxHeartbeats 2000000 in
theorem cRNextSusp (c1 : s1.susp = true) : Calls Try.prog 76 #[.pointer (some ⟨q, 0, none⟩), .int .i64 now] w fun e w' => e = .returned (.tuple #[.agg zeroPdu, .bool false]) ∧ Sts W (refP zh q (s1) (.slice da s1.data.length dc) :: l) w' := by
  rw [hdl] at hs
  obtain ⟨wv0, h⟩ := Sts.openRef hs
  have hl2 : ∀ B ∈ blkP q (.cells ((s).rcs (.slice da s1.data.length dc) wv0) 38 (0, 0)) :: ownW zh wv0 s.wanted :: l, Stable B := stabC (blkP_stable _ _) (stabC (ownW_stable _ _ _) hl)
  have hz : Sts W (blkP w.heap.size (.cells zeroPdu 45 (0, 0)) :: blkP q (.cells ((s).rcs (.slice da s1.data.length dc) wv0) 38 (0, 0)) :: ownW zh wv0 s.wanted :: l) (w.alloc (.cells #[.int .i64 0, .int .i64 0, .int .i64 0, .int .i64 0, .string ⟨#[]⟩, .int .i64 0, .int .i64 0, .slice none 0 0, .int .u32 0, .int .i64 0, .slice none 0 0] 45)) := h.alloc hl2 (.cells zeroPdu 45 (0, 0))
  have k8 : (w.alloc (.cells #[.int .i64 0, .int .i64 0, .int .i64 0, .int .i64 0, .string ⟨#[]⟩, .int .i64 0, .int .i64 0, .slice none 0 0, .int .u32 0, .int .i64 0, .slice none 0 0] 45)).cell? ⟨q, 8, none⟩ = some (.int .i64 (s.phase + 1)) := (Sts.refC hz.tail).k8
  have hP := cClock (stabC (blkP_stable _ _) hl) zh q s (.slice da s1.data.length dc) (Sts.shutRef (s := s) (wv := wv0) (Sts.second hz.swap)) now
  rw [hp1] at hP
  have HP := hid hP
  have HL := hid hl
  clear hP h hz hs hl2 hl hp1 hdl
  go_enter Try.func76, Try.ntmps76
  go_wp2_with (first | (go_at_call 109; refine HP.out.mono ?_; rintro e w1 ⟨rfl, h1⟩; obtain ⟨wv, h2⟩ := Sts.openRef h1; have H1 := hid h1; have H2 := hid h2; have hC := Sts.refC h2; have r8 := hC.k8; have r13 := hC.k13; have r17 := hC.k17; clear hC; rw [c1] at r13; clear c1; clear h1 h2) | (refine wpList_agg H2.out.third (stabC (blkP_stable _ _) (stabC (ownW_stable _ _ _) HL.out)) rfl (.tmp 4) (.tmp 20) 45 rfl (zeroPdu) rfl rfl sizePdu rfl rfl ?_; intro w5 hz; have HF := hid hz; clear hz))
  exact post_cell2 HF.out Try.results76 rfl rfl (ldPdu rfl HF.out) _ rfl ⟨rfl, Sts.shutRef (s := s1) (wv := wv) HF.out.tail⟩
set_option maxRecDepth 100000 in
set_option maxHeartbeats 2000000 in
theorem cRNextAckA (c1 : s1.susp = false) (c2 : s1.due = true) (c3 : (s1.phase + 1 == 3) = false) : Calls Try.prog 76 #[.pointer (some ⟨q, 0, none⟩), .int .i64 now] w fun e w' => e = .returned (.tuple #[.agg (Fil.ackP s1).cells, .bool true]) ∧ Sts W (refP zh q ({ s1 with due := false }) (.slice da s1.data.length dc) :: l) w' := by
  rw [hdl] at hs
  obtain ⟨wv0, h⟩ := Sts.openRef hs
  have hl2 : ∀ B ∈ blkP q (.cells ((s).rcs (.slice da s1.data.length dc) wv0) 38 (0, 0)) :: ownW zh wv0 s.wanted :: l, Stable B := stabC (blkP_stable _ _) (stabC (ownW_stable _ _ _) hl)
  have hz : Sts W (blkP w.heap.size (.cells zeroPdu 45 (0, 0)) :: blkP q (.cells ((s).rcs (.slice da s1.data.length dc) wv0) 38 (0, 0)) :: ownW zh wv0 s.wanted :: l) (w.alloc (.cells #[.int .i64 0, .int .i64 0, .int .i64 0, .int .i64 0, .string ⟨#[]⟩, .int .i64 0, .int .i64 0, .slice none 0 0, .int .u32 0, .int .i64 0, .slice none 0 0] 45)) := h.alloc hl2 (.cells zeroPdu 45 (0, 0))
  have k8 : (w.alloc (.cells #[.int .i64 0, .int .i64 0, .int .i64 0, .int .i64 0, .string ⟨#[]⟩, .int .i64 0, .int .i64 0, .slice none 0 0, .int .u32 0, .int .i64 0, .slice none 0 0] 45)).cell? ⟨q, 8, none⟩ = some (.int .i64 (s.phase + 1)) := (Sts.refC hz.tail).k8
  have hP := cClock (stabC (blkP_stable _ _) hl) zh q s (.slice da s1.data.length dc) (Sts.shutRef (s := s) (wv := wv0) (Sts.second hz.swap)) now
  rw [hp1] at hP
  have HP := hid hP
  have HL := hid hl
  clear hP h hz hs hl2 hl hp1 hdl
  go_enter Try.func76, Try.ntmps76
  go_wp2_with (first | (go_at_call 109; refine HP.out.mono ?_; rintro e w1 ⟨rfl, h1⟩; obtain ⟨wv, h2⟩ := Sts.openRef h1; have H1 := hid h1; have H2 := hid h2; have hC := Sts.refC h2; have r8 := hC.k8; have r13 := hC.k13; have r17 := hC.k17; have r19 := hC.k19; have r0 := hC.k0; have r1 := hC.k1; clear hC; rw [c1] at r13; clear c1; rw [c2] at r17; clear c2; clear h1 h2) | (refine wpList_cell H2.out (stabC (ownW_stable _ _ _) (stabC (blkP_stable _ _) HL.out)) rfl (.tmp 27) (.const (.bool false)) 4 rfl 17 (.bool false) rfl rfl szBool (show 17 < 20 by decide) rfl ?_; intro w3 hz; replace hz : Sts W (blkP q (.cells (({ s1 with due := false }).rcs (.slice da s1.data.length dc) wv) 38 (0, 0)) :: ownW zh wv ({ s1 with due := false }).wanted :: blkP w.heap.size (.cells zeroPdu 45 (0, 0)) :: l) w3 := hz; clear r8 r19 r0 r1; have hC := Sts.refC hz; have r8 := hC.k8; have r19 := hC.k19; have r0 := hC.k0; have r1 := hC.k1; clear hC; (try dsimp only at r8 r19 r0 r1); have H3 := hid hz; clear hz) | (refine wpList_agg H3.out.third (stabC (blkP_stable _ _) (stabC (ownW_stable _ _ _) HL.out)) rfl (.tmp 4) (.tmp 48) 45 rfl ((Fil.ackP s1).cells) rfl rfl sizePdu rfl rfl ?_; intro w5 hz; have HF := hid hz; clear hz))
  exact post_cell2 HF.out Try.results76 rfl rfl (ldPdu rfl HF.out) _ rfl ⟨rfl, Sts.shutRef (s := { s1 with due := false }) (wv := wv) HF.out.tail⟩
set_option maxRecDepth 100000 in
set_option maxHeartbeats 2000000 in
theorem cRNextAckB (c1 : s1.susp = false) (c2 : s1.due = true) (c3 : s1.phase = 2) (c4 : s1.code = 0) : Calls Try.prog 76 #[.pointer (some ⟨q, 0, none⟩), .int .i64 now] w fun e w' => e = .returned (.tuple #[.agg (Fil.ackP s1).cells, .bool true]) ∧ Sts W (refP zh q ({ s1 with due := false, phase := 4 }) (.slice da s1.data.length dc) :: l) w' := by
  rw [hdl] at hs
  obtain ⟨wv0, h⟩ := Sts.openRef hs
  have hl2 : ∀ B ∈ blkP q (.cells ((s).rcs (.slice da s1.data.length dc) wv0) 38 (0, 0)) :: ownW zh wv0 s.wanted :: l, Stable B := stabC (blkP_stable _ _) (stabC (ownW_stable _ _ _) hl)
  have hz : Sts W (blkP w.heap.size (.cells zeroPdu 45 (0, 0)) :: blkP q (.cells ((s).rcs (.slice da s1.data.length dc) wv0) 38 (0, 0)) :: ownW zh wv0 s.wanted :: l) (w.alloc (.cells #[.int .i64 0, .int .i64 0, .int .i64 0, .int .i64 0, .string ⟨#[]⟩, .int .i64 0, .int .i64 0, .slice none 0 0, .int .u32 0, .int .i64 0, .slice none 0 0] 45)) := h.alloc hl2 (.cells zeroPdu 45 (0, 0))
  have k8 : (w.alloc (.cells #[.int .i64 0, .int .i64 0, .int .i64 0, .int .i64 0, .string ⟨#[]⟩, .int .i64 0, .int .i64 0, .slice none 0 0, .int .u32 0, .int .i64 0, .slice none 0 0] 45)).cell? ⟨q, 8, none⟩ = some (.int .i64 (s.phase + 1)) := (Sts.refC hz.tail).k8
  have hP := cClock (stabC (blkP_stable _ _) hl) zh q s (.slice da s1.data.length dc) (Sts.shutRef (s := s) (wv := wv0) (Sts.second hz.swap)) now
  rw [hp1] at hP
  have HP := hid hP
  have HL := hid hl
  clear hP h hz hs hl2 hl hp1 hdl
  go_enter Try.func76, Try.ntmps76
  go_wp2_with (first | (go_at_call 109; refine HP.out.mono ?_; rintro e w1 ⟨rfl, h1⟩; obtain ⟨wv, h2⟩ := Sts.openRef h1; have H1 := hid h1; have H2 := hid h2; have hC := Sts.refC h2; have r8 := hC.k8; have r13 := hC.k13; have r17 := hC.k17; have r19 := hC.k19; have r0 := hC.k0; have r1 := hC.k1; clear hC; rw [c1] at r13; clear c1; rw [c2] at r17; clear c2; rw [c3] at r8; rw [c4] at r19; clear h1 h2) | (refine wpList_cell H2.out (stabC (ownW_stable _ _ _) (stabC (blkP_stable _ _) HL.out)) rfl (.tmp 27) (.const (.bool false)) 4 rfl 17 (.bool false) rfl rfl szBool (show 17 < 20 by decide) rfl ?_; intro w3 hz; replace hz : Sts W (blkP q (.cells (({ s1 with due := false }).rcs (.slice da s1.data.length dc) wv) 38 (0, 0)) :: ownW zh wv ({ s1 with due := false }).wanted :: blkP w.heap.size (.cells zeroPdu 45 (0, 0)) :: l) w3 := hz; clear r8 r19 r0 r1; have hC := Sts.refC hz; have r8 := hC.k8; have r19 := hC.k19; have r0 := hC.k0; have r1 := hC.k1; clear hC; (try dsimp only at r8 r19 r0 r1); have H3 := hid hz; rw [c3] at r8; rw [c4] at r19; clear hz) | (refine wpList_cell H3.out (stabC (ownW_stable _ _ _) (stabC (blkP_stable _ _) HL.out)) rfl (.tmp 35) (.const (.int .i64 5)) 3 rfl 8 (.int .i64 5) rfl rfl szInt (show 8 < 20 by decide) rfl ?_; intro w3b hz; replace hz : Sts W (blkP q (.cells (({ s1 with due := false, phase := 4 }).rcs (.slice da s1.data.length dc) wv) 38 (0, 0)) :: ownW zh wv ({ s1 with due := false, phase := 4 }).wanted :: blkP w.heap.size (.cells zeroPdu 45 (0, 0)) :: l) w3b := hz; clear r8 r19 r0 r1; have hC := Sts.refC hz; have r8 := hC.k8; have r19 := hC.k19; have r0 := hC.k0; have r1 := hC.k1; clear hC; (try dsimp only at r8 r19 r0 r1); have H3b := hid hz; rw [c4] at r19; clear c4; clear hz) | (refine wpList_agg H3b.out.third (stabC (blkP_stable _ _) (stabC (ownW_stable _ _ _) HL.out)) rfl (.tmp 4) (.tmp 48) 45 rfl ((Fil.ackP s1).cells) rfl rfl sizePdu rfl rfl ?_; intro w5 hz; have HF := hid hz; clear hz))
  exact post_cell2 HF.out Try.results76 rfl rfl (ldPdu rfl HF.out) _ rfl ⟨rfl, Sts.shutRef (s := { s1 with due := false, phase := 4 }) (wv := wv) HF.out.tail⟩
set_option maxRecDepth 100000 in
set_option maxHeartbeats 2000000 in
theorem cRNextAckC (c1 : s1.susp = false) (c2 : s1.due = true) (c3 : s1.phase = 2) (c4 : (s1.code != 0) = true) : Calls Try.prog 76 #[.pointer (some ⟨q, 0, none⟩), .int .i64 now] w fun e w' => e = .returned (.tuple #[.agg (Fil.ackP s1).cells, .bool true]) ∧ Sts W (refP zh q ({ s1 with due := false, phase := 5 }) (.slice da s1.data.length dc) :: l) w' := by
  rw [hdl] at hs
  obtain ⟨wv0, h⟩ := Sts.openRef hs
  have hl2 : ∀ B ∈ blkP q (.cells ((s).rcs (.slice da s1.data.length dc) wv0) 38 (0, 0)) :: ownW zh wv0 s.wanted :: l, Stable B := stabC (blkP_stable _ _) (stabC (ownW_stable _ _ _) hl)
  have hz : Sts W (blkP w.heap.size (.cells zeroPdu 45 (0, 0)) :: blkP q (.cells ((s).rcs (.slice da s1.data.length dc) wv0) 38 (0, 0)) :: ownW zh wv0 s.wanted :: l) (w.alloc (.cells #[.int .i64 0, .int .i64 0, .int .i64 0, .int .i64 0, .string ⟨#[]⟩, .int .i64 0, .int .i64 0, .slice none 0 0, .int .u32 0, .int .i64 0, .slice none 0 0] 45)) := h.alloc hl2 (.cells zeroPdu 45 (0, 0))
  have k8 : (w.alloc (.cells #[.int .i64 0, .int .i64 0, .int .i64 0, .int .i64 0, .string ⟨#[]⟩, .int .i64 0, .int .i64 0, .slice none 0 0, .int .u32 0, .int .i64 0, .slice none 0 0] 45)).cell? ⟨q, 8, none⟩ = some (.int .i64 (s.phase + 1)) := (Sts.refC hz.tail).k8
  have hP := cClock (stabC (blkP_stable _ _) hl) zh q s (.slice da s1.data.length dc) (Sts.shutRef (s := s) (wv := wv0) (Sts.second hz.swap)) now
  rw [hp1] at hP
  have HP := hid hP
  have HL := hid hl
  clear hP h hz hs hl2 hl hp1 hdl
  go_enter Try.func76, Try.ntmps76
  go_wp2_with (first | (go_at_call 109; refine HP.out.mono ?_; rintro e w1 ⟨rfl, h1⟩; obtain ⟨wv, h2⟩ := Sts.openRef h1; have H1 := hid h1; have H2 := hid h2; have hC := Sts.refC h2; have r8 := hC.k8; have r13 := hC.k13; have r17 := hC.k17; have r19 := hC.k19; have r0 := hC.k0; have r1 := hC.k1; clear hC; rw [c1] at r13; clear c1; rw [c2] at r17; clear c2; rw [c3] at r8; clear h1 h2) | (refine wpList_cell H2.out (stabC (ownW_stable _ _ _) (stabC (blkP_stable _ _) HL.out)) rfl (.tmp 27) (.const (.bool false)) 4 rfl 17 (.bool false) rfl rfl szBool (show 17 < 20 by decide) rfl ?_; intro w3 hz; replace hz : Sts W (blkP q (.cells (({ s1 with due := false }).rcs (.slice da s1.data.length dc) wv) 38 (0, 0)) :: ownW zh wv ({ s1 with due := false }).wanted :: blkP w.heap.size (.cells zeroPdu 45 (0, 0)) :: l) w3 := hz; clear r8 r19 r0 r1; have hC := Sts.refC hz; have r8 := hC.k8; have r19 := hC.k19; have r0 := hC.k0; have r1 := hC.k1; clear hC; (try dsimp only at r8 r19 r0 r1); have H3 := hid hz; rw [c3] at r8; clear hz) | (refine wpList_cell H3.out (stabC (ownW_stable _ _ _) (stabC (blkP_stable _ _) HL.out)) rfl (.tmp 35) (.const (.int .i64 5)) 3 rfl 8 (.int .i64 5) rfl rfl szInt (show 8 < 20 by decide) rfl ?_; intro w3b hz; replace hz : Sts W (blkP q (.cells (({ s1 with due := false, phase := 4 }).rcs (.slice da s1.data.length dc) wv) 38 (0, 0)) :: ownW zh wv ({ s1 with due := false, phase := 4 }).wanted :: blkP w.heap.size (.cells zeroPdu 45 (0, 0)) :: l) w3b := hz; clear r8 r19 r0 r1; have hC := Sts.refC hz; have r8 := hC.k8; have r19 := hC.k19; have r0 := hC.k0; have r1 := hC.k1; clear hC; (try dsimp only at r8 r19 r0 r1); have H3b := hid hz; clear hz) | (refine wpList_cell H3b.out (stabC (ownW_stable _ _ _) (stabC (blkP_stable _ _) HL.out)) rfl (.tmp 43) (.const (.int .i64 6)) 3 rfl 8 (.int .i64 6) rfl rfl szInt (show 8 < 20 by decide) rfl ?_; intro w3c hz; replace hz : Sts W (blkP q (.cells (({ s1 with due := false, phase := 5 }).rcs (.slice da s1.data.length dc) wv) 38 (0, 0)) :: ownW zh wv ({ s1 with due := false, phase := 5 }).wanted :: blkP w.heap.size (.cells zeroPdu 45 (0, 0)) :: l) w3c := hz; clear r8 r19 r0 r1; have hC := Sts.refC hz; have r8 := hC.k8; have r19 := hC.k19; have r0 := hC.k0; have r1 := hC.k1; clear hC; (try dsimp only at r8 r19 r0 r1); have H3c := hid hz; clear hz) | (refine wpList_agg H3c.out.third (stabC (blkP_stable _ _) (stabC (ownW_stable _ _ _) HL.out)) rfl (.tmp 4) (.tmp 48) 45 rfl ((Fil.ackP s1).cells) rfl rfl sizePdu rfl rfl ?_; intro w5 hz; have HF := hid hz; clear hz))
  exact post_cell2 HF.out Try.results76 rfl rfl (ldPdu rfl HF.out) _ rfl ⟨rfl, Sts.shutRef (s := { s1 with due := false, phase := 5 }) (wv := wv) HF.out.tail⟩
set_option maxRecDepth 100000 in
set_option maxHeartbeats 2000000 in
theorem cRNextOff (c1 : s1.susp = false) (c2 : s1.due = false) (c3 : s1.phase = 3) (hd : RdB W (.slice da s1.data.length dc) s1.data) (hn : s1.data.length < 100000000) : Calls Try.prog 76 #[.pointer (some ⟨q, 0, none⟩), .int .i64 now] w fun e w' => e = .returned (.tuple #[.agg (Fil.eofP s1 17).cells, .bool true]) ∧ Sts W (refP zh q ({ s1 with phase := 6 }) (.slice da s1.data.length dc) :: l) w' := by
  have HD := hid hd
  clear hd
  rw [hdl] at hs
  obtain ⟨wv0, h⟩ := Sts.openRef hs
  have hl2 : ∀ B ∈ blkP q (.cells ((s).rcs (.slice da s1.data.length dc) wv0) 38 (0, 0)) :: ownW zh wv0 s.wanted :: l, Stable B := stabC (blkP_stable _ _) (stabC (ownW_stable _ _ _) hl)
  have hz : Sts W (blkP w.heap.size (.cells zeroPdu 45 (0, 0)) :: blkP q (.cells ((s).rcs (.slice da s1.data.length dc) wv0) 38 (0, 0)) :: ownW zh wv0 s.wanted :: l) (w.alloc (.cells #[.int .i64 0, .int .i64 0, .int .i64 0, .int .i64 0, .string ⟨#[]⟩, .int .i64 0, .int .i64 0, .slice none 0 0, .int .u32 0, .int .i64 0, .slice none 0 0] 45)) := h.alloc hl2 (.cells zeroPdu 45 (0, 0))
  have k8 : (w.alloc (.cells #[.int .i64 0, .int .i64 0, .int .i64 0, .int .i64 0, .string ⟨#[]⟩, .int .i64 0, .int .i64 0, .slice none 0 0, .int .u32 0, .int .i64 0, .slice none 0 0] 45)).cell? ⟨q, 8, none⟩ = some (.int .i64 (s.phase + 1)) := (Sts.refC hz.tail).k8
  have hP := cClock (stabC (blkP_stable _ _) hl) zh q s (.slice da s1.data.length dc) (Sts.shutRef (s := s) (wv := wv0) (Sts.second hz.swap)) now
  rw [hp1] at hP
  have HP := hid hP
  have HL := hid hl
  clear hP h hz hs hl2 hl hp1 hdl
  go_enter Try.func76, Try.ntmps76
  go_wp2_with (first | (go_at_call 109; refine HP.out.mono ?_; rintro e w1 ⟨rfl, h1⟩; obtain ⟨wv, h2⟩ := Sts.openRef h1; have H1 := hid h1; have H2 := hid h2; have hC := Sts.refC h2; have r8 := hC.k8; have r13 := hC.k13; have r17 := hC.k17; clear hC; rw [c1] at r13; clear c1; rw [c2] at r17; clear c2; rw [c3] at r8; clear h1 h2) | (refine wpList_cell H2.out (stabC (ownW_stable _ _ _) (stabC (blkP_stable _ _) HL.out)) rfl (.tmp 56) (.const (.int .i64 7)) 3 rfl 8 (.int .i64 7) rfl rfl szInt (show 8 < 20 by decide) rfl ?_; intro w3 hz; replace hz : Sts W (blkP q (.cells (({ s1 with phase := 6 }).rcs (.slice da s1.data.length dc) wv) 38 (0, 0)) :: ownW zh wv ({ s1 with phase := 6 }).wanted :: blkP w.heap.size (.cells zeroPdu 45 (0, 0)) :: l) w3 := hz; have H3 := hid hz; have HM := hid (cREof (stabC (blkP_stable _ _) HL.out) zh q { s1 with phase := 6 } da dc (Sts.shutRef (s := { s1 with phase := 6 }) (wv := wv) hz) HD.out hn 17); clear hz) | (go_at_call 110; refine HM.out.mono ?_; rintro e w4 ⟨rfl, hw⟩; have H4 := hid hw.swap; clear hw) | (refine wpList_agg H4.out (stabC (refP_stable _ _ _ _) HL.out) rfl (.tmp 4) (.tmp 58) 45 rfl ((Fil.eofP s1 17).cells) rfl rfl sizePdu rfl rfl ?_; intro w5 hz; have HF := hid hz; clear hz))
  exact post_cell2 HF.out Try.results76 rfl rfl (ldPdu rfl HF.out) _ rfl ⟨rfl, HF.out.tail⟩
set_option maxRecDepth 100000 in
set_option maxHeartbeats 2000000 in
theorem cRNextOver (c1 : s1.susp = false) (c2 : s1.due = false) (c3 : (s1.phase + 1 == 4) = false) (c4 : (s1.phase + 1 != 1) = true) (c5 : (s1.phase + 1 != 2) = true) : Calls Try.prog 76 #[.pointer (some ⟨q, 0, none⟩), .int .i64 now] w fun e w' => e = .returned (.tuple #[.agg zeroPdu, .bool false]) ∧ Sts W (refP zh q (s1) (.slice da s1.data.length dc) :: l) w' := by
  rw [hdl] at hs
  obtain ⟨wv0, h⟩ := Sts.openRef hs
  have hl2 : ∀ B ∈ blkP q (.cells ((s).rcs (.slice da s1.data.length dc) wv0) 38 (0, 0)) :: ownW zh wv0 s.wanted :: l, Stable B := stabC (blkP_stable _ _) (stabC (ownW_stable _ _ _) hl)
  have hz : Sts W (blkP w.heap.size (.cells zeroPdu 45 (0, 0)) :: blkP q (.cells ((s).rcs (.slice da s1.data.length dc) wv0) 38 (0, 0)) :: ownW zh wv0 s.wanted :: l) (w.alloc (.cells #[.int .i64 0, .int .i64 0, .int .i64 0, .int .i64 0, .string ⟨#[]⟩, .int .i64 0, .int .i64 0, .slice none 0 0, .int .u32 0, .int .i64 0, .slice none 0 0] 45)) := h.alloc hl2 (.cells zeroPdu 45 (0, 0))
  have k8 : (w.alloc (.cells #[.int .i64 0, .int .i64 0, .int .i64 0, .int .i64 0, .string ⟨#[]⟩, .int .i64 0, .int .i64 0, .slice none 0 0, .int .u32 0, .int .i64 0, .slice none 0 0] 45)).cell? ⟨q, 8, none⟩ = some (.int .i64 (s.phase + 1)) := (Sts.refC hz.tail).k8
  have hP := cClock (stabC (blkP_stable _ _) hl) zh q s (.slice da s1.data.length dc) (Sts.shutRef (s := s) (wv := wv0) (Sts.second hz.swap)) now
  rw [hp1] at hP
  have HP := hid hP
  have HL := hid hl
  clear hP h hz hs hl2 hl hp1 hdl
  go_enter Try.func76, Try.ntmps76
  go_wp2_with (first | (go_at_call 109; refine HP.out.mono ?_; rintro e w1 ⟨rfl, h1⟩; obtain ⟨wv, h2⟩ := Sts.openRef h1; have H1 := hid h1; have H2 := hid h2; have hC := Sts.refC h2; have r8 := hC.k8; have r13 := hC.k13; have r17 := hC.k17; clear hC; rw [c1] at r13; clear c1; rw [c2] at r17; clear c2; clear h1 h2) | (refine wpList_agg H2.out.third (stabC (blkP_stable _ _) (stabC (ownW_stable _ _ _) HL.out)) rfl (.tmp 4) (.tmp 71) 45 rfl (zeroPdu) rfl rfl sizePdu rfl rfl ?_; intro w5 hz; have HF := hid hz; clear hz))
  exact post_cell2 HF.out Try.results76 rfl rfl (ldPdu rfl HF.out) _ rfl ⟨rfl, Sts.shutRef (s := s1) (wv := wv) HF.out.tail⟩
set_option maxRecDepth 100000 in
set_option maxHeartbeats 2000000 in
theorem cRNextMeta0 (c1 : s1.susp = false) (c2 : s1.due = false) (c3 : s1.phase = 0) (c5 : s1.mreq = true) : Calls Try.prog 76 #[.pointer (some ⟨q, 0, none⟩), .int .i64 now] w fun e w' => e = .returned (.tuple #[.agg (Fil.headP s1.src s1.num s1.cls s1.name s1.data.length).cells, .bool true]) ∧ Sts W (refP zh q ({ s1 with mreq := false }) (.slice da s1.data.length dc) :: l) w' := by
  rw [hdl] at hs
  obtain ⟨wv0, h⟩ := Sts.openRef hs
  have hl2 : ∀ B ∈ blkP q (.cells ((s).rcs (.slice da s1.data.length dc) wv0) 38 (0, 0)) :: ownW zh wv0 s.wanted :: l, Stable B := stabC (blkP_stable _ _) (stabC (ownW_stable _ _ _) hl)
  have hz : Sts W (blkP w.heap.size (.cells zeroPdu 45 (0, 0)) :: blkP q (.cells ((s).rcs (.slice da s1.data.length dc) wv0) 38 (0, 0)) :: ownW zh wv0 s.wanted :: l) (w.alloc (.cells #[.int .i64 0, .int .i64 0, .int .i64 0, .int .i64 0, .string ⟨#[]⟩, .int .i64 0, .int .i64 0, .slice none 0 0, .int .u32 0, .int .i64 0, .slice none 0 0] 45)) := h.alloc hl2 (.cells zeroPdu 45 (0, 0))
  have k8 : (w.alloc (.cells #[.int .i64 0, .int .i64 0, .int .i64 0, .int .i64 0, .string ⟨#[]⟩, .int .i64 0, .int .i64 0, .slice none 0 0, .int .u32 0, .int .i64 0, .slice none 0 0] 45)).cell? ⟨q, 8, none⟩ = some (.int .i64 (s.phase + 1)) := (Sts.refC hz.tail).k8
  have hP := cClock (stabC (blkP_stable _ _) hl) zh q s (.slice da s1.data.length dc) (Sts.shutRef (s := s) (wv := wv0) (Sts.second hz.swap)) now
  rw [hp1] at hP
  have HP := hid hP
  have HL := hid hl
  clear hP h hz hs hl2 hl hp1 hdl
  go_enter Try.func76, Try.ntmps76
  go_wp2_with (first | (go_at_call 109; refine HP.out.mono ?_; rintro e w1 ⟨rfl, h1⟩; obtain ⟨wv, h2⟩ := Sts.openRef h1; have H1 := hid h1; have H2 := hid h2; have hC := Sts.refC h2; have r8 := hC.k8; have r13 := hC.k13; have r17 := hC.k17; have r15 := hC.k15; clear hC; rw [c1] at r13; clear c1; rw [c2] at r17; clear c2; rw [c3] at r8; rw [c5] at r15; clear h1 h2) | (refine wpList_cell H2.out (stabC (ownW_stable _ _ _) (stabC (blkP_stable _ _) HL.out)) rfl (.tmp 78) (.const (.bool false)) 4 rfl 15 (.bool false) rfl rfl szBool (show 15 < 20 by decide) rfl ?_; intro w3 hz; replace hz : Sts W (blkP q (.cells (({ s1 with mreq := false }).rcs (.slice da s1.data.length dc) wv) 38 (0, 0)) :: ownW zh wv ({ s1 with mreq := false }).wanted :: blkP w.heap.size (.cells zeroPdu 45 (0, 0)) :: l) w3 := hz; have H3 := hid hz; have HM := hid (cRMeta (stabC (blkP_stable _ _) HL.out) zh q { s1 with mreq := false } da dc (Sts.shutRef (s := { s1 with mreq := false }) (wv := wv) hz)); clear hz) | (go_at_call 111; refine HM.out.mono ?_; rintro e w4 ⟨rfl, hw⟩; have H4 := hid hw.swap; clear hw) | (refine wpList_agg H4.out (stabC (refP_stable _ _ _ _) HL.out) rfl (.tmp 4) (.tmp 80) 45 rfl ((Fil.headP s1.src s1.num s1.cls s1.name s1.data.length).cells) rfl rfl sizePdu rfl rfl ?_; intro w5 hz; have HF := hid hz; clear hz))
  exact post_cell2 HF.out Try.results76 rfl rfl (ldPdu rfl HF.out) _ rfl ⟨rfl, HF.out.tail⟩
set_option maxRecDepth 100000 in
set_option maxHeartbeats 2000000 in
theorem cRNextMeta1 (c1 : s1.susp = false) (c2 : s1.due = false) (c3 : s1.phase = 1) (c5 : s1.mreq = true) : Calls Try.prog 76 #[.pointer (some ⟨q, 0, none⟩), .int .i64 now] w fun e w' => e = .returned (.tuple #[.agg (Fil.headP s1.src s1.num s1.cls s1.name s1.data.length).cells, .bool true]) ∧ Sts W (refP zh q ({ s1 with mreq := false }) (.slice da s1.data.length dc) :: l) w' := by
  rw [hdl] at hs
  obtain ⟨wv0, h⟩ := Sts.openRef hs
  have hl2 : ∀ B ∈ blkP q (.cells ((s).rcs (.slice da s1.data.length dc) wv0) 38 (0, 0)) :: ownW zh wv0 s.wanted :: l, Stable B := stabC (blkP_stable _ _) (stabC (ownW_stable _ _ _) hl)
  have hz : Sts W (blkP w.heap.size (.cells zeroPdu 45 (0, 0)) :: blkP q (.cells ((s).rcs (.slice da s1.data.length dc) wv0) 38 (0, 0)) :: ownW zh wv0 s.wanted :: l) (w.alloc (.cells #[.int .i64 0, .int .i64 0, .int .i64 0, .int .i64 0, .string ⟨#[]⟩, .int .i64 0, .int .i64 0, .slice none 0 0, .int .u32 0, .int .i64 0, .slice none 0 0] 45)) := h.alloc hl2 (.cells zeroPdu 45 (0, 0))
  have k8 : (w.alloc (.cells #[.int .i64 0, .int .i64 0, .int .i64 0, .int .i64 0, .string ⟨#[]⟩, .int .i64 0, .int .i64 0, .slice none 0 0, .int .u32 0, .int .i64 0, .slice none 0 0] 45)).cell? ⟨q, 8, none⟩ = some (.int .i64 (s.phase + 1)) := (Sts.refC hz.tail).k8
  have hP := cClock (stabC (blkP_stable _ _) hl) zh q s (.slice da s1.data.length dc) (Sts.shutRef (s := s) (wv := wv0) (Sts.second hz.swap)) now
  rw [hp1] at hP
  have HP := hid hP
  have HL := hid hl
  clear hP h hz hs hl2 hl hp1 hdl
  go_enter Try.func76, Try.ntmps76
  go_wp2_with (first | (go_at_call 109; refine HP.out.mono ?_; rintro e w1 ⟨rfl, h1⟩; obtain ⟨wv, h2⟩ := Sts.openRef h1; have H1 := hid h1; have H2 := hid h2; have hC := Sts.refC h2; have r8 := hC.k8; have r13 := hC.k13; have r17 := hC.k17; have r15 := hC.k15; clear hC; rw [c1] at r13; clear c1; rw [c2] at r17; clear c2; rw [c3] at r8; rw [c5] at r15; clear h1 h2) | (refine wpList_cell H2.out (stabC (ownW_stable _ _ _) (stabC (blkP_stable _ _) HL.out)) rfl (.tmp 78) (.const (.bool false)) 4 rfl 15 (.bool false) rfl rfl szBool (show 15 < 20 by decide) rfl ?_; intro w3 hz; replace hz : Sts W (blkP q (.cells (({ s1 with mreq := false }).rcs (.slice da s1.data.length dc) wv) 38 (0, 0)) :: ownW zh wv ({ s1 with mreq := false }).wanted :: blkP w.heap.size (.cells zeroPdu 45 (0, 0)) :: l) w3 := hz; have H3 := hid hz; have HM := hid (cRMeta (stabC (blkP_stable _ _) HL.out) zh q { s1 with mreq := false } da dc (Sts.shutRef (s := { s1 with mreq := false }) (wv := wv) hz)); clear hz) | (go_at_call 111; refine HM.out.mono ?_; rintro e w4 ⟨rfl, hw⟩; have H4 := hid hw.swap; clear hw) | (refine wpList_agg H4.out (stabC (refP_stable _ _ _ _) HL.out) rfl (.tmp 4) (.tmp 80) 45 rfl ((Fil.headP s1.src s1.num s1.cls s1.name s1.data.length).cells) rfl rfl sizePdu rfl rfl ?_; intro w5 hz; have HF := hid hz; clear hz))
  exact post_cell2 HF.out Try.results76 rfl rfl (ldPdu rfl HF.out) _ rfl ⟨rfl, HF.out.tail⟩
set_option maxRecDepth 100000 in
set_option maxHeartbeats 2000000 in
theorem cRNextFwdHead (c1 : s1.susp = false) (c2 : s1.due = false) (c3 : s1.phase = 0) (c5 : s1.mreq = false) (hzr : ∀ A y, Sts W (A :: l) y → RdR y zh.1 zh.2) (c6 : s1.wanted.length = 0) (h0 : s1.started = false) : Calls Try.prog 76 #[.pointer (some ⟨q, 0, none⟩), .int .i64 now] w fun e w' => e = .returned (.tuple #[.agg (Fil.headP s1.src s1.num s1.cls s1.name s1.data.length).cells, .bool true]) ∧ Sts W (refP zh q ({ s1 with started := true }) (.slice da s1.data.length dc) :: l) w' := by
  have HZR := hid hzr
  clear hzr
  rw [hdl] at hs
  obtain ⟨wv0, h⟩ := Sts.openRef hs
  have hl2 : ∀ B ∈ blkP q (.cells ((s).rcs (.slice da s1.data.length dc) wv0) 38 (0, 0)) :: ownW zh wv0 s.wanted :: l, Stable B := stabC (blkP_stable _ _) (stabC (ownW_stable _ _ _) hl)
  have hz : Sts W (blkP w.heap.size (.cells zeroPdu 45 (0, 0)) :: blkP q (.cells ((s).rcs (.slice da s1.data.length dc) wv0) 38 (0, 0)) :: ownW zh wv0 s.wanted :: l) (w.alloc (.cells #[.int .i64 0, .int .i64 0, .int .i64 0, .int .i64 0, .string ⟨#[]⟩, .int .i64 0, .int .i64 0, .slice none 0 0, .int .u32 0, .int .i64 0, .slice none 0 0] 45)) := h.alloc hl2 (.cells zeroPdu 45 (0, 0))
  have k8 : (w.alloc (.cells #[.int .i64 0, .int .i64 0, .int .i64 0, .int .i64 0, .string ⟨#[]⟩, .int .i64 0, .int .i64 0, .slice none 0 0, .int .u32 0, .int .i64 0, .slice none 0 0] 45)).cell? ⟨q, 8, none⟩ = some (.int .i64 (s.phase + 1)) := (Sts.refC hz.tail).k8
  have hP := cClock (stabC (blkP_stable _ _) hl) zh q s (.slice da s1.data.length dc) (Sts.shutRef (s := s) (wv := wv0) (Sts.second hz.swap)) now
  rw [hp1] at hP
  have HP := hid hP
  have HL := hid hl
  clear hP h hz hs hl2 hl hp1 hdl
  go_enter Try.func76, Try.ntmps76
  go_wp2_with (first | (go_at_call 109; refine HP.out.mono ?_; rintro e w1 ⟨rfl, h1⟩; obtain ⟨wv, h2⟩ := Sts.openRef h1; have H1 := hid h1; have H2 := hid h2; have hC := Sts.refC h2; have r8 := hC.k8; have r13 := hC.k13; have r17 := hC.k17; have r15 := hC.k15; have r18 := hC.k18; clear hC; rw [c1] at r13; clear c1; rw [c2] at r17; clear c2; rw [c3] at r8; rw [c5] at r15; obtain ⟨wa, wc, hwe⟩ : ∃ a c, wv = .slice a s1.wanted.length c := (by obtain ⟨F, hF⟩ := h2.tail.head; exact (ownW.rd hF (HZR.out _ _ h2.tail.tail)).eq); subst hwe; rw [c6] at r18; have HM := hid (cRSndHead (stabC (blkP_stable _ _) HL.out) zh q s1 da dc H1.out h0); clear h1 h2) | (go_at_call 113; refine HM.out.mono ?_; rintro e w4 ⟨rfl, hw⟩; have H4 := hid (hw.swap); clear hw) | (refine wpList_agg H4.out (stabC (refP_stable _ _ _ _) HL.out) rfl (.tmp 4) (.tmp 127) 45 rfl ((Fil.headP s1.src s1.num s1.cls s1.name s1.data.length).cells) rfl rfl sizePdu rfl rfl ?_; intro w5 hz; have HF := hid hz; clear hz))
  exact post_cell2 HF.out Try.results76 rfl rfl (ldPdu rfl HF.out) _ rfl ⟨rfl, HF.out.tail⟩
set_option maxRecDepth 100000 in
set_option maxHeartbeats 2000000 in
theorem cRNextFwdPiece (c1 : s1.susp = false) (c2 : s1.due = false) (c3 : s1.phase = 0) (c5 : s1.mreq = false) (hzr : ∀ A y, Sts W (A :: l) y → RdR y zh.1 zh.2) (c6 : s1.wanted.length = 0) (hd : RdB W (.slice da s1.data.length dc) s1.data) (hn : s1.data.length < 100000000) (f c tt : Nat) (h0 : s1.started = true) (h1' : s1.at' = (f : Int)) (h2x : s1.chunk = (c : Int)) (h3 : f < s1.data.length) (h4 : 0 < c ∧ c ≤ 512) (h5 : tt = min (f + c) s1.data.length) : Calls Try.prog 76 #[.pointer (some ⟨q, 0, none⟩), .int .i64 now] w fun e w' => ∃ pa pc, e = .returned (.tuple #[.agg (Fil.pieceP s1 f pa ((s1.data.drop f).take (tt - f)) pc).cells, .bool true]) ∧ Sts W (refP zh q ({ s1 with at' := ((tt : Nat) : Int) }) (.slice da s1.data.length dc) :: rowP 5 1 (.slice pa ((s1.data.drop f).take (tt - f)).length pc) ((s1.data.drop f).take (tt - f)).length (u8s ((s1.data.drop f).take (tt - f))) :: l) w' := by
  have HZR := hid hzr
  clear hzr
  have HD := hid hd
  clear hd
  have H5 := hid h5
  clear h5
  rw [hdl] at hs
  obtain ⟨wv0, h⟩ := Sts.openRef hs
  have hl2 : ∀ B ∈ blkP q (.cells ((s).rcs (.slice da s1.data.length dc) wv0) 38 (0, 0)) :: ownW zh wv0 s.wanted :: l, Stable B := stabC (blkP_stable _ _) (stabC (ownW_stable _ _ _) hl)
  have hz : Sts W (blkP w.heap.size (.cells zeroPdu 45 (0, 0)) :: blkP q (.cells ((s).rcs (.slice da s1.data.length dc) wv0) 38 (0, 0)) :: ownW zh wv0 s.wanted :: l) (w.alloc (.cells #[.int .i64 0, .int .i64 0, .int .i64 0, .int .i64 0, .string ⟨#[]⟩, .int .i64 0, .int .i64 0, .slice none 0 0, .int .u32 0, .int .i64 0, .slice none 0 0] 45)) := h.alloc hl2 (.cells zeroPdu 45 (0, 0))
  have k8 : (w.alloc (.cells #[.int .i64 0, .int .i64 0, .int .i64 0, .int .i64 0, .string ⟨#[]⟩, .int .i64 0, .int .i64 0, .slice none 0 0, .int .u32 0, .int .i64 0, .slice none 0 0] 45)).cell? ⟨q, 8, none⟩ = some (.int .i64 (s.phase + 1)) := (Sts.refC hz.tail).k8
  have hP := cClock (stabC (blkP_stable _ _) hl) zh q s (.slice da s1.data.length dc) (Sts.shutRef (s := s) (wv := wv0) (Sts.second hz.swap)) now
  rw [hp1] at hP
  have HP := hid hP
  have HL := hid hl
  clear hP h hz hs hl2 hl hp1 hdl
  go_enter Try.func76, Try.ntmps76
  go_wp2_with (first | (go_at_call 109; refine HP.out.mono ?_; rintro e w1 ⟨rfl, h1⟩; obtain ⟨wv, h2⟩ := Sts.openRef h1; have H1 := hid h1; have H2 := hid h2; have hC := Sts.refC h2; have r8 := hC.k8; have r13 := hC.k13; have r17 := hC.k17; have r15 := hC.k15; have r18 := hC.k18; clear hC; rw [c1] at r13; clear c1; rw [c2] at r17; clear c2; rw [c3] at r8; rw [c5] at r15; obtain ⟨wa, wc, hwe⟩ : ∃ a c, wv = .slice a s1.wanted.length c := (by obtain ⟨F, hF⟩ := h2.tail.head; exact (ownW.rd hF (HZR.out _ _ h2.tail.tail)).eq); subst hwe; rw [c6] at r18; have HM := hid (cRSndPiece (stabC (blkP_stable _ _) HL.out) zh q s1 da dc H1.out HD.out hn f c tt h0 h1' h2x h3 h4 H5.out); clear h1 h2) | (go_at_call 113; refine HM.out.mono ?_; rintro e w4 ⟨pa, pc, rfl, hw⟩; have H4 := hid (hw.third); clear hw) | (refine wpList_agg H4.out (stabC (refP_stable _ _ _ _) (stabC (rowP_stable _ _ _ _ _) HL.out)) rfl (.tmp 4) (.tmp 127) 45 rfl ((Fil.pieceP s1 f pa ((s1.data.drop f).take (tt - f)) pc).cells) rfl rfl sizePdu rfl rfl ?_; intro w5 hz; have HF := hid hz; clear hz))
  exact post_cell2 HF.out Try.results76 rfl rfl (ldPdu rfl HF.out) _ rfl ⟨pa, pc, rfl, HF.out.tail⟩
set_option maxRecDepth 100000 in
set_option maxHeartbeats 2000000 in
theorem cRNextFwdEof1 (c1 : s1.susp = false) (c2 : s1.due = false) (c3 : s1.phase = 0) (c5 : s1.mreq = false) (hzr : ∀ A y, Sts W (A :: l) y → RdR y zh.1 zh.2) (c6 : s1.wanted.length = 0) (hd : RdB W (.slice da s1.data.length dc) s1.data) (hn : s1.data.length < 100000000) (h0 : s1.started = true) (h1' : s1.data.length ≤ s1.at') (hc : s1.cls = 1) : Calls Try.prog 76 #[.pointer (some ⟨q, 0, none⟩), .int .i64 now] w fun e w' => e = .returned (.tuple #[.agg (Fil.eofP s1 0).cells, .bool true]) ∧ Sts W (refP zh q ({ s1 with phase := 4 }) (.slice da s1.data.length dc) :: l) w' := by
  have HZR := hid hzr
  clear hzr
  have HD := hid hd
  clear hd
  rw [hdl] at hs
  obtain ⟨wv0, h⟩ := Sts.openRef hs
  have hl2 : ∀ B ∈ blkP q (.cells ((s).rcs (.slice da s1.data.length dc) wv0) 38 (0, 0)) :: ownW zh wv0 s.wanted :: l, Stable B := stabC (blkP_stable _ _) (stabC (ownW_stable _ _ _) hl)
  have hz : Sts W (blkP w.heap.size (.cells zeroPdu 45 (0, 0)) :: blkP q (.cells ((s).rcs (.slice da s1.data.length dc) wv0) 38 (0, 0)) :: ownW zh wv0 s.wanted :: l) (w.alloc (.cells #[.int .i64 0, .int .i64 0, .int .i64 0, .int .i64 0, .string ⟨#[]⟩, .int .i64 0, .int .i64 0, .slice none 0 0, .int .u32 0, .int .i64 0, .slice none 0 0] 45)) := h.alloc hl2 (.cells zeroPdu 45 (0, 0))
  have k8 : (w.alloc (.cells #[.int .i64 0, .int .i64 0, .int .i64 0, .int .i64 0, .string ⟨#[]⟩, .int .i64 0, .int .i64 0, .slice none 0 0, .int .u32 0, .int .i64 0, .slice none 0 0] 45)).cell? ⟨q, 8, none⟩ = some (.int .i64 (s.phase + 1)) := (Sts.refC hz.tail).k8
  have hP := cClock (stabC (blkP_stable _ _) hl) zh q s (.slice da s1.data.length dc) (Sts.shutRef (s := s) (wv := wv0) (Sts.second hz.swap)) now
  rw [hp1] at hP
  have HP := hid hP
  have HL := hid hl
  clear hP h hz hs hl2 hl hp1 hdl
  go_enter Try.func76, Try.ntmps76
  go_wp2_with (first | (go_at_call 109; refine HP.out.mono ?_; rintro e w1 ⟨rfl, h1⟩; obtain ⟨wv, h2⟩ := Sts.openRef h1; have H1 := hid h1; have H2 := hid h2; have hC := Sts.refC h2; have r8 := hC.k8; have r13 := hC.k13; have r17 := hC.k17; have r15 := hC.k15; have r18 := hC.k18; clear hC; rw [c1] at r13; clear c1; rw [c2] at r17; clear c2; rw [c3] at r8; rw [c5] at r15; obtain ⟨wa, wc, hwe⟩ : ∃ a c, wv = .slice a s1.wanted.length c := (by obtain ⟨F, hF⟩ := h2.tail.head; exact (ownW.rd hF (HZR.out _ _ h2.tail.tail)).eq); subst hwe; rw [c6] at r18; have HM := hid (cRSndEof1 (stabC (blkP_stable _ _) HL.out) zh q s1 da dc H1.out HD.out hn h0 h1' hc); clear h1 h2) | (go_at_call 113; refine HM.out.mono ?_; rintro e w4 ⟨rfl, hw⟩; have H4 := hid (hw.swap); clear hw) | (refine wpList_agg H4.out (stabC (refP_stable _ _ _ _) HL.out) rfl (.tmp 4) (.tmp 127) 45 rfl ((Fil.eofP s1 0).cells) rfl rfl sizePdu rfl rfl ?_; intro w5 hz; have HF := hid hz; clear hz))
  exact post_cell2 HF.out Try.results76 rfl rfl (ldPdu rfl HF.out) _ rfl ⟨rfl, HF.out.tail⟩
set_option maxRecDepth 100000 in
set_option maxHeartbeats 2000000 in
theorem cRNextFwdEof2 (c1 : s1.susp = false) (c2 : s1.due = false) (c3 : s1.phase = 0) (c5 : s1.mreq = false) (hzr : ∀ A y, Sts W (A :: l) y → RdR y zh.1 zh.2) (c6 : s1.wanted.length = 0) (hd : RdB W (.slice da s1.data.length dc) s1.data) (hn : s1.data.length < 100000000) (h0 : s1.started = true) (h1' : s1.data.length ≤ s1.at') (hc : s1.cls = 2) : Calls Try.prog 76 #[.pointer (some ⟨q, 0, none⟩), .int .i64 now] w fun e w' => e = .returned (.tuple #[.agg (Fil.eofP s1 0).cells, .bool true]) ∧ Sts W (refP zh q ({ s1 with phase := 1, timer := s1.now, tries := 0 }) (.slice da s1.data.length dc) :: l) w' := by
  have HZR := hid hzr
  clear hzr
  have HD := hid hd
  clear hd
  rw [hdl] at hs
  obtain ⟨wv0, h⟩ := Sts.openRef hs
  have hl2 : ∀ B ∈ blkP q (.cells ((s).rcs (.slice da s1.data.length dc) wv0) 38 (0, 0)) :: ownW zh wv0 s.wanted :: l, Stable B := stabC (blkP_stable _ _) (stabC (ownW_stable _ _ _) hl)
  have hz : Sts W (blkP w.heap.size (.cells zeroPdu 45 (0, 0)) :: blkP q (.cells ((s).rcs (.slice da s1.data.length dc) wv0) 38 (0, 0)) :: ownW zh wv0 s.wanted :: l) (w.alloc (.cells #[.int .i64 0, .int .i64 0, .int .i64 0, .int .i64 0, .string ⟨#[]⟩, .int .i64 0, .int .i64 0, .slice none 0 0, .int .u32 0, .int .i64 0, .slice none 0 0] 45)) := h.alloc hl2 (.cells zeroPdu 45 (0, 0))
  have k8 : (w.alloc (.cells #[.int .i64 0, .int .i64 0, .int .i64 0, .int .i64 0, .string ⟨#[]⟩, .int .i64 0, .int .i64 0, .slice none 0 0, .int .u32 0, .int .i64 0, .slice none 0 0] 45)).cell? ⟨q, 8, none⟩ = some (.int .i64 (s.phase + 1)) := (Sts.refC hz.tail).k8
  have hP := cClock (stabC (blkP_stable _ _) hl) zh q s (.slice da s1.data.length dc) (Sts.shutRef (s := s) (wv := wv0) (Sts.second hz.swap)) now
  rw [hp1] at hP
  have HP := hid hP
  have HL := hid hl
  clear hP h hz hs hl2 hl hp1 hdl
  go_enter Try.func76, Try.ntmps76
  go_wp2_with (first | (go_at_call 109; refine HP.out.mono ?_; rintro e w1 ⟨rfl, h1⟩; obtain ⟨wv, h2⟩ := Sts.openRef h1; have H1 := hid h1; have H2 := hid h2; have hC := Sts.refC h2; have r8 := hC.k8; have r13 := hC.k13; have r17 := hC.k17; have r15 := hC.k15; have r18 := hC.k18; clear hC; rw [c1] at r13; clear c1; rw [c2] at r17; clear c2; rw [c3] at r8; rw [c5] at r15; obtain ⟨wa, wc, hwe⟩ : ∃ a c, wv = .slice a s1.wanted.length c := (by obtain ⟨F, hF⟩ := h2.tail.head; exact (ownW.rd hF (HZR.out _ _ h2.tail.tail)).eq); subst hwe; rw [c6] at r18; have HM := hid (cRSndEof2 (stabC (blkP_stable _ _) HL.out) zh q s1 da dc H1.out HD.out hn h0 h1' hc); clear h1 h2) | (go_at_call 113; refine HM.out.mono ?_; rintro e w4 ⟨rfl, hw⟩; have H4 := hid (hw.swap); clear hw) | (refine wpList_agg H4.out (stabC (refP_stable _ _ _ _) HL.out) rfl (.tmp 4) (.tmp 127) 45 rfl ((Fil.eofP s1 0).cells) rfl rfl sizePdu rfl rfl ?_; intro w5 hz; have HF := hid hz; clear hz))
  exact post_cell2 HF.out Try.results76 rfl rfl (ldPdu rfl HF.out) _ rfl ⟨rfl, HF.out.tail⟩
end
end Go.Proofs.Ytfjadhkhmhnccaa
namespace Go.Proofs.Ytfjadhkhmhnccaa
open Go.RowKit Go.Proofs.Num
section
variable {W w : World} {l : List HProp} (hl : ∀ B ∈ l, Stable B) (zh : Value × List Rng.R) (q : Nat) (s s1 : Fil.Src) (da : Option Addr) (dc : Nat) (hs : Sts W (refP zh q s (.slice da s.data.length dc) :: l) w) (now : Int) (hp1 : s.pass now = s1) (hz0 : (s.phase + 1 == 0) = false) (hdl : s.data.length = s1.data.length)
include hl hs hp1 hz0 hdl
set_option maxRecDepth 100000 in
set_option maxHeartbeats 2000000 in
theorem cRNextRepAck (c1 : s1.susp = false) (c2 : s1.due = false) (c3 : s1.phase = 1) (c5 : s1.mreq = false) (hzr : ∀ A y, Sts W (A :: l) y → RdR y zh.1 zh.2) (c6 : s1.wanted.length = 0) (hT : 0 ≤ s1.timer + s1.timeout ∧ s1.timer + s1.timeout < 4611686018427387904) (ha : s1.acked = true) : Calls Try.prog 76 #[.pointer (some ⟨q, 0, none⟩), .int .i64 now] w fun e w' => e = .returned (.tuple #[.agg zeroPdu, .bool false]) ∧ Sts W (refP zh q (s1) (.slice da s1.data.length dc) :: l) w' := by
  have HZR := hid hzr
  clear hzr
  rw [hdl] at hs
  obtain ⟨wv0, h⟩ := Sts.openRef hs
  have hl2 : ∀ B ∈ blkP q (.cells ((s).rcs (.slice da s1.data.length dc) wv0) 38 (0, 0)) :: ownW zh wv0 s.wanted :: l, Stable B := stabC (blkP_stable _ _) (stabC (ownW_stable _ _ _) hl)
  have hz : Sts W (blkP w.heap.size (.cells zeroPdu 45 (0, 0)) :: blkP q (.cells ((s).rcs (.slice da s1.data.length dc) wv0) 38 (0, 0)) :: ownW zh wv0 s.wanted :: l) (w.alloc (.cells #[.int .i64 0, .int .i64 0, .int .i64 0, .int .i64 0, .string ⟨#[]⟩, .int .i64 0, .int .i64 0, .slice none 0 0, .int .u32 0, .int .i64 0, .slice none 0 0] 45)) := h.alloc hl2 (.cells zeroPdu 45 (0, 0))
  have k8 : (w.alloc (.cells #[.int .i64 0, .int .i64 0, .int .i64 0, .int .i64 0, .string ⟨#[]⟩, .int .i64 0, .int .i64 0, .slice none 0 0, .int .u32 0, .int .i64 0, .slice none 0 0] 45)).cell? ⟨q, 8, none⟩ = some (.int .i64 (s.phase + 1)) := (Sts.refC hz.tail).k8
  have hP := cClock (stabC (blkP_stable _ _) hl) zh q s (.slice da s1.data.length dc) (Sts.shutRef (s := s) (wv := wv0) (Sts.second hz.swap)) now
  rw [hp1] at hP
  have HP := hid hP
  have HL := hid hl
  clear hP h hz hs hl2 hl hp1 hdl
  go_enter Try.func76, Try.ntmps76
  go_wp2_with (first | (go_at_call 109; refine HP.out.mono ?_; rintro e w1 ⟨rfl, h1⟩; obtain ⟨wv, h2⟩ := Sts.openRef h1; have H1 := hid h1; have H2 := hid h2; have hC := Sts.refC h2; have r8 := hC.k8; have r13 := hC.k13; have r17 := hC.k17; have r15 := hC.k15; have r18 := hC.k18; have r16 := hC.k16; clear hC; rw [c1] at r13; clear c1; rw [c2] at r17; clear c2; rw [c3] at r8; rw [c5] at r15; obtain ⟨wa, wc, hwe⟩ : ∃ a c, wv = .slice a s1.wanted.length c := (by obtain ⟨F, hF⟩ := h2.tail.head; exact (ownW.rd hF (HZR.out _ _ h2.tail.tail)).eq); subst hwe; rw [c6] at r18; rw [ha] at r16; clear ha c3 c5; have HSN := hid (fun n => h2.quiet (stabC (blkP_stable _ _) (stabC (ownW_stable _ _ _) (stabC (blkP_stable _ _) HL.out))) (below_drewN (Below.refl _ _) n)); clear h1 h2))
  go_quiet (fail)
  go_wp2_with (first | (refine wpList_agg (Sts.third (HSN.out _)) (stabC (blkP_stable _ _) (stabC (ownW_stable _ _ _) HL.out)) rfl (.tmp 4) (.tmp 150) 45 rfl (zeroPdu) rfl rfl sizePdu rfl rfl ?_; intro w5 hz; have HF := hid hz; clear hz))
  exact post_cell2 HF.out Try.results76 rfl rfl (ldPdu rfl HF.out) _ rfl ⟨rfl, Sts.shutRef (s := s1) HF.out.tail⟩
set_option maxRecDepth 100000 in
set_option maxHeartbeats 2000000 in
theorem cRNextRepWait (c1 : s1.susp = false) (c2 : s1.due = false) (c3 : s1.phase = 1) (c5 : s1.mreq = false) (hzr : ∀ A y, Sts W (A :: l) y → RdR y zh.1 zh.2) (c6 : s1.wanted.length = 0) (hT : 0 ≤ s1.timer + s1.timeout ∧ s1.timer + s1.timeout < 4611686018427387904) (ha : s1.acked = false) (hdd : decide (s1.now < s1.timer + s1.timeout) = true) : Calls Try.prog 76 #[.pointer (some ⟨q, 0, none⟩), .int .i64 now] w fun e w' => e = .returned (.tuple #[.agg zeroPdu, .bool false]) ∧ Sts W (refP zh q (s1) (.slice da s1.data.length dc) :: l) w' := by
  have HZR := hid hzr
  clear hzr
  rw [hdl] at hs
  obtain ⟨wv0, h⟩ := Sts.openRef hs
  have hl2 : ∀ B ∈ blkP q (.cells ((s).rcs (.slice da s1.data.length dc) wv0) 38 (0, 0)) :: ownW zh wv0 s.wanted :: l, Stable B := stabC (blkP_stable _ _) (stabC (ownW_stable _ _ _) hl)
  have hz : Sts W (blkP w.heap.size (.cells zeroPdu 45 (0, 0)) :: blkP q (.cells ((s).rcs (.slice da s1.data.length dc) wv0) 38 (0, 0)) :: ownW zh wv0 s.wanted :: l) (w.alloc (.cells #[.int .i64 0, .int .i64 0, .int .i64 0, .int .i64 0, .string ⟨#[]⟩, .int .i64 0, .int .i64 0, .slice none 0 0, .int .u32 0, .int .i64 0, .slice none 0 0] 45)) := h.alloc hl2 (.cells zeroPdu 45 (0, 0))
  have k8 : (w.alloc (.cells #[.int .i64 0, .int .i64 0, .int .i64 0, .int .i64 0, .string ⟨#[]⟩, .int .i64 0, .int .i64 0, .slice none 0 0, .int .u32 0, .int .i64 0, .slice none 0 0] 45)).cell? ⟨q, 8, none⟩ = some (.int .i64 (s.phase + 1)) := (Sts.refC hz.tail).k8
  have hP := cClock (stabC (blkP_stable _ _) hl) zh q s (.slice da s1.data.length dc) (Sts.shutRef (s := s) (wv := wv0) (Sts.second hz.swap)) now
  rw [hp1] at hP
  have HP := hid hP
  have HL := hid hl
  clear hP h hz hs hl2 hl hp1 hdl
  go_enter Try.func76, Try.ntmps76
  go_wp2_with (first | (go_at_call 109; refine HP.out.mono ?_; rintro e w1 ⟨rfl, h1⟩; obtain ⟨wv, h2⟩ := Sts.openRef h1; have H1 := hid h1; have H2 := hid h2; have hC := Sts.refC h2; have r8 := hC.k8; have r13 := hC.k13; have r17 := hC.k17; have r15 := hC.k15; have r18 := hC.k18; have r16 := hC.k16; have r10 := hC.k10; have r11 := hC.k11; have r6 := hC.k6; clear hC; rw [c1] at r13; clear c1; rw [c2] at r17; clear c2; rw [c3] at r8; rw [c5] at r15; obtain ⟨wa, wc, hwe⟩ : ∃ a c, wv = .slice a s1.wanted.length c := (by obtain ⟨F, hF⟩ := h2.tail.head; exact (ownW.rd hF (HZR.out _ _ h2.tail.tail)).eq); subst hwe; rw [c6] at r18; rw [ha] at r16; clear ha c3 c5; have HSN := hid (fun n => h2.quiet (stabC (blkP_stable _ _) (stabC (ownW_stable _ _ _) (stabC (blkP_stable _ _) HL.out))) (below_drewN (Below.refl _ _) n)); clear h1 h2))
  go_quiet (fail)
  go_wp2_with (first | (refine wpList_agg (Sts.third (HSN.out _)) (stabC (blkP_stable _ _) (stabC (ownW_stable _ _ _) HL.out)) rfl (.tmp 4) (.tmp 150) 45 rfl (zeroPdu) rfl rfl sizePdu rfl rfl ?_; intro w5 hz; have HF := hid hz; clear hz))
  exact post_cell2 HF.out Try.results76 rfl rfl (ldPdu rfl HF.out) _ rfl ⟨rfl, Sts.shutRef (s := s1) HF.out.tail⟩
set_option maxRecDepth 100000 in
set_option maxHeartbeats 2000000 in
theorem cRNextRepFail (c1 : s1.susp = false) (c2 : s1.due = false) (c3 : s1.phase = 1) (c5 : s1.mreq = false) (hzr : ∀ A y, Sts W (A :: l) y → RdR y zh.1 zh.2) (c6 : s1.wanted.length = 0) (hT : 0 ≤ s1.timer + s1.timeout ∧ s1.timer + s1.timeout < 4611686018427387904) (ha : s1.acked = false) (hdd : decide (s1.now < s1.timer + s1.timeout) = false) (hr : decide (s1.tries ≥ s1.retries) = true) : Calls Try.prog 76 #[.pointer (some ⟨q, 0, none⟩), .int .i64 now] w fun e w' => e = .returned (.tuple #[.agg zeroPdu, .bool false]) ∧ Sts W (refP zh q ({ s1 with phase := 5, code := 10 }) (.slice da s1.data.length dc) :: l) w' := by
  have HZR := hid hzr
  clear hzr
  rw [hdl] at hs
  obtain ⟨wv0, h⟩ := Sts.openRef hs
  have hl2 : ∀ B ∈ blkP q (.cells ((s).rcs (.slice da s1.data.length dc) wv0) 38 (0, 0)) :: ownW zh wv0 s.wanted :: l, Stable B := stabC (blkP_stable _ _) (stabC (ownW_stable _ _ _) hl)
  have hz : Sts W (blkP w.heap.size (.cells zeroPdu 45 (0, 0)) :: blkP q (.cells ((s).rcs (.slice da s1.data.length dc) wv0) 38 (0, 0)) :: ownW zh wv0 s.wanted :: l) (w.alloc (.cells #[.int .i64 0, .int .i64 0, .int .i64 0, .int .i64 0, .string ⟨#[]⟩, .int .i64 0, .int .i64 0, .slice none 0 0, .int .u32 0, .int .i64 0, .slice none 0 0] 45)) := h.alloc hl2 (.cells zeroPdu 45 (0, 0))
  have k8 : (w.alloc (.cells #[.int .i64 0, .int .i64 0, .int .i64 0, .int .i64 0, .string ⟨#[]⟩, .int .i64 0, .int .i64 0, .slice none 0 0, .int .u32 0, .int .i64 0, .slice none 0 0] 45)).cell? ⟨q, 8, none⟩ = some (.int .i64 (s.phase + 1)) := (Sts.refC hz.tail).k8
  have hP := cClock (stabC (blkP_stable _ _) hl) zh q s (.slice da s1.data.length dc) (Sts.shutRef (s := s) (wv := wv0) (Sts.second hz.swap)) now
  rw [hp1] at hP
  have HP := hid hP
  have HL := hid hl
  clear hP h hz hs hl2 hl hp1 hdl
  go_enter Try.func76, Try.ntmps76
  go_wp2_with (first | (go_at_call 109; refine HP.out.mono ?_; rintro e w1 ⟨rfl, h1⟩; obtain ⟨wv, h2⟩ := Sts.openRef h1; have H1 := hid h1; have H2 := hid h2; have hC := Sts.refC h2; have r8 := hC.k8; have r13 := hC.k13; have r17 := hC.k17; have r15 := hC.k15; have r18 := hC.k18; have r16 := hC.k16; have r10 := hC.k10; have r11 := hC.k11; have r6 := hC.k6; have r12 := hC.k12; have r7 := hC.k7; clear hC; rw [c1] at r13; clear c1; rw [c2] at r17; clear c2; rw [c3] at r8; rw [c5] at r15; obtain ⟨wa, wc, hwe⟩ : ∃ a c, wv = .slice a s1.wanted.length c := (by obtain ⟨F, hF⟩ := h2.tail.head; exact (ownW.rd hF (HZR.out _ _ h2.tail.tail)).eq); subst hwe; rw [c6] at r18; rw [ha] at r16; clear ha c3 c5; have HSN := hid (fun n => h2.quiet (stabC (blkP_stable _ _) (stabC (ownW_stable _ _ _) (stabC (blkP_stable _ _) HL.out))) (below_drewN (Below.refl _ _) n)); clear h1 h2))
  go_quiet (fail)
  go_wp2_with fail
  go_quiet (fail)
  go_wp2_with (first | (refine wpList_cell (HSN.out _) (stabC (ownW_stable _ _ _) (stabC (blkP_stable _ _) HL.out)) rfl (.tmp 163) (.const (.int .i64 6)) 3 rfl 8 (.int .i64 6) rfl rfl szInt (show 8 < 20 by decide) rfl ?_; intro w3 hz; replace hz : Sts W (blkP q (.cells (({ s1 with phase := 5 }).rcs (.slice da s1.data.length dc) (.slice wa s1.wanted.length wc)) 38 (0, 0)) :: ownW zh (.slice wa s1.wanted.length wc) ({ s1 with phase := 5 }).wanted :: blkP w.heap.size (.cells zeroPdu 45 (0, 0)) :: l) w3 := hz; have H3 := hid hz; clear hz) | (refine wpList_cell H3.out (stabC (ownW_stable _ _ _) (stabC (blkP_stable _ _) HL.out)) rfl (.tmp 166) (.const (.int .i64 10)) 33 rfl 19 (.int .i64 10) rfl rfl szErr (show 19 < 20 by decide) rfl ?_; intro w3b hz; replace hz : Sts W (blkP q (.cells (({ s1 with phase := 5, code := 10 }).rcs (.slice da s1.data.length dc) (.slice wa s1.wanted.length wc)) 38 (0, 0)) :: ownW zh (.slice wa s1.wanted.length wc) ({ s1 with phase := 5, code := 10 }).wanted :: blkP w.heap.size (.cells zeroPdu 45 (0, 0)) :: l) w3b := hz; have H3b := hid hz; clear hz) | (refine wpList_agg H3b.out.third (stabC (blkP_stable _ _) (stabC (ownW_stable _ _ _) HL.out)) rfl (.tmp 4) (.tmp 167) 45 rfl (zeroPdu) rfl rfl sizePdu rfl rfl ?_; intro w5 hz; have HF := hid hz; clear hz))
  exact post_cell2 HF.out Try.results76 rfl rfl (ldPdu rfl HF.out) _ rfl ⟨rfl, Sts.shutRef (s := { s1 with phase := 5, code := 10 }) HF.out.tail⟩
set_option maxRecDepth 100000 in
set_option maxHeartbeats 2000000 in
theorem cRNextRepEof (c1 : s1.susp = false) (c2 : s1.due = false) (c3 : s1.phase = 1) (c5 : s1.mreq = false) (hzr : ∀ A y, Sts W (A :: l) y → RdR y zh.1 zh.2) (c6 : s1.wanted.length = 0) (hT : 0 ≤ s1.timer + s1.timeout ∧ s1.timer + s1.timeout < 4611686018427387904) (ha : s1.acked = false) (hdd : decide (s1.now < s1.timer + s1.timeout) = false) (hr : decide (s1.tries ≥ s1.retries) = false) (htr : 0 ≤ s1.tries ∧ s1.tries < 1000000) (hd : RdB W (.slice da s1.data.length dc) s1.data) (hn : s1.data.length < 100000000) : Calls Try.prog 76 #[.pointer (some ⟨q, 0, none⟩), .int .i64 now] w fun e w' => e = .returned (.tuple #[.agg (Fil.eofP s1 0).cells, .bool true]) ∧ Sts W (refP zh q ({ s1 with tries := s1.tries + 1, timer := s1.now }) (.slice da s1.data.length dc) :: l) w' := by
  have HZR := hid hzr
  clear hzr
  have HD := hid hd
  clear hd
  rw [hdl] at hs
  obtain ⟨wv0, h⟩ := Sts.openRef hs
  have hl2 : ∀ B ∈ blkP q (.cells ((s).rcs (.slice da s1.data.length dc) wv0) 38 (0, 0)) :: ownW zh wv0 s.wanted :: l, Stable B := stabC (blkP_stable _ _) (stabC (ownW_stable _ _ _) hl)
  have hz : Sts W (blkP w.heap.size (.cells zeroPdu 45 (0, 0)) :: blkP q (.cells ((s).rcs (.slice da s1.data.length dc) wv0) 38 (0, 0)) :: ownW zh wv0 s.wanted :: l) (w.alloc (.cells #[.int .i64 0, .int .i64 0, .int .i64 0, .int .i64 0, .string ⟨#[]⟩, .int .i64 0, .int .i64 0, .slice none 0 0, .int .u32 0, .int .i64 0, .slice none 0 0] 45)) := h.alloc hl2 (.cells zeroPdu 45 (0, 0))
  have k8 : (w.alloc (.cells #[.int .i64 0, .int .i64 0, .int .i64 0, .int .i64 0, .string ⟨#[]⟩, .int .i64 0, .int .i64 0, .slice none 0 0, .int .u32 0, .int .i64 0, .slice none 0 0] 45)).cell? ⟨q, 8, none⟩ = some (.int .i64 (s.phase + 1)) := (Sts.refC hz.tail).k8
  have hP := cClock (stabC (blkP_stable _ _) hl) zh q s (.slice da s1.data.length dc) (Sts.shutRef (s := s) (wv := wv0) (Sts.second hz.swap)) now
  rw [hp1] at hP
  have HP := hid hP
  have HL := hid hl
  clear hP h hz hs hl2 hl hp1 hdl
  go_enter Try.func76, Try.ntmps76
  go_wp2_with (first | (go_at_call 109; refine HP.out.mono ?_; rintro e w1 ⟨rfl, h1⟩; obtain ⟨wv, h2⟩ := Sts.openRef h1; have H1 := hid h1; have H2 := hid h2; have hC := Sts.refC h2; have r8 := hC.k8; have r13 := hC.k13; have r17 := hC.k17; have r15 := hC.k15; have r18 := hC.k18; have r16 := hC.k16; have r10 := hC.k10; have r11 := hC.k11; have r6 := hC.k6; have r12 := hC.k12; have r7 := hC.k7; clear hC; rw [c1] at r13; clear c1; rw [c2] at r17; clear c2; rw [c3] at r8; rw [c5] at r15; obtain ⟨wa, wc, hwe⟩ : ∃ a c, wv = .slice a s1.wanted.length c := (by obtain ⟨F, hF⟩ := h2.tail.head; exact (ownW.rd hF (HZR.out _ _ h2.tail.tail)).eq); subst hwe; rw [c6] at r18; rw [ha] at r16; clear ha c3 c5; have HSN := hid (fun n => h2.quiet (stabC (blkP_stable _ _) (stabC (ownW_stable _ _ _) (stabC (blkP_stable _ _) HL.out))) (below_drewN (Below.refl _ _) n)); clear h1 h2))
  go_quiet (fail)
  go_wp2_with fail
  go_quiet (fail)
  go_wp2_with (first | (refine wpList_cell (HSN.out _) (stabC (ownW_stable _ _ _) (stabC (blkP_stable _ _) HL.out)) rfl (.tmp 175) (.tmp 173) 3 rfl 12 (.int .i64 (s1.tries + 1)) rfl rfl szInt (show 12 < 20 by decide) rfl ?_; intro w3 hz; replace hz : Sts W (blkP q (.cells (({ s1 with tries := s1.tries + 1 }).rcs (.slice da s1.data.length dc) (.slice wa s1.wanted.length wc)) 38 (0, 0)) :: ownW zh (.slice wa s1.wanted.length wc) ({ s1 with tries := s1.tries + 1 }).wanted :: blkP w.heap.size (.cells zeroPdu 45 (0, 0)) :: l) w3 := hz; clear r10; have hC := Sts.refC hz; have r10 := hC.k10; clear hC; (try dsimp only at r10); have H3 := hid hz; clear hz) | (refine wpList_cell H3.out (stabC (ownW_stable _ _ _) (stabC (blkP_stable _ _) HL.out)) rfl (.tmp 182) (.tmp 180) 3 rfl 11 (.int .i64 s1.now) rfl rfl szInt (show 11 < 20 by decide) rfl ?_; intro w3b hz; replace hz : Sts W (blkP q (.cells (({ s1 with tries := s1.tries + 1, timer := s1.now }).rcs (.slice da s1.data.length dc) (.slice wa s1.wanted.length wc)) 38 (0, 0)) :: ownW zh (.slice wa s1.wanted.length wc) ({ s1 with tries := s1.tries + 1, timer := s1.now }).wanted :: blkP w.heap.size (.cells zeroPdu 45 (0, 0)) :: l) w3b := hz; have H3b := hid hz; have HM := hid (cREof (stabC (blkP_stable _ _) HL.out) zh q { s1 with tries := s1.tries + 1, timer := s1.now } da dc (Sts.shutRef (s := { s1 with tries := s1.tries + 1, timer := s1.now }) hz) HD.out hn 0); clear hz) | (go_at_call 110; refine HM.out.mono ?_; rintro e w4 ⟨rfl, hw⟩; have H4 := hid hw.swap; clear hw) | (refine wpList_agg H4.out (stabC (refP_stable _ _ _ _) HL.out) rfl (.tmp 4) (.tmp 184) 45 rfl ((Fil.eofP s1 0).cells) rfl rfl sizePdu rfl rfl ?_; intro w5 hz; have HF := hid hz; clear hz))
  exact post_cell2 HF.out Try.results76 rfl rfl (ldPdu rfl HF.out) _ rfl ⟨rfl, HF.out.tail⟩
end
end Go.Proofs.Ytfjadhkhmhnccaa
namespace Go.Proofs.Ytfjadhkhmhnccaa
open Go.RowKit Go.Proofs.Num
section
variable {W w : World} {l : List HProp} (hl : ∀ B ∈ l, Stable B) (zh : Value × List Rng.R) (q : Nat) (s s1 : Fil.Src) (da : Option Addr) (dc : Nat) (hs : Sts W (refP zh q s (.slice da s.data.length dc) :: l) w) (now : Int) (hp1 : s.pass now = s1) (hz0 : (s.phase + 1 == 0) = false) (hdl : s.data.length = s1.data.length)
include hl hs hp1 hz0 hdl
set_option maxRecDepth 100000 in
set_option maxHeartbeats 2000000 in
theorem cRNextAgain0 (c1 : s1.susp = false) (c2 : s1.due = false) (c3 : s1.phase = 0) (c5 : s1.mreq = false) (hzr : ∀ A y, Sts W (A :: l) y → RdR y zh.1 zh.2) (hd : RdB W (.slice da s1.data.length dc) s1.data) (hn : s1.data.length < 100000000) (f t c tt : Nat) (rest : List Rng.R) (hw : s1.wanted = ((f : Int), (t : Int)) :: rest) (hft : f < t) (ht : t ≤ s1.data.length) (h2x : s1.chunk = (c : Int)) (h4 : 0 < c ∧ c ≤ 512) (h5 : tt = min t (f + c)) (hwl : s1.wanted.length < 200000) : Calls Try.prog 76 #[.pointer (some ⟨q, 0, none⟩), .int .i64 now] w fun e w' => ∃ pa pc, e = .returned (.tuple #[.agg (Fil.pieceP s1 f pa ((s1.data.drop f).take (tt - f)) pc).cells, .bool true]) ∧ Sts W (refP zh q ({ s1 with wanted := Rng.remV s1.wanted ((f : Int), (tt : Int)) }) (.slice da s1.data.length dc) :: rowP 5 1 (.slice pa ((s1.data.drop f).take (tt - f)).length pc) ((s1.data.drop f).take (tt - f)).length (u8s ((s1.data.drop f).take (tt - f))) :: l) w' := by
  have HZR := hid hzr
  clear hzr
  have HD := hid hd
  clear hd
  rw [hdl] at hs
  obtain ⟨wv0, h⟩ := Sts.openRef hs
  have hl2 : ∀ B ∈ blkP q (.cells ((s).rcs (.slice da s1.data.length dc) wv0) 38 (0, 0)) :: ownW zh wv0 s.wanted :: l, Stable B := stabC (blkP_stable _ _) (stabC (ownW_stable _ _ _) hl)
  have hz : Sts W (blkP w.heap.size (.cells zeroPdu 45 (0, 0)) :: blkP q (.cells ((s).rcs (.slice da s1.data.length dc) wv0) 38 (0, 0)) :: ownW zh wv0 s.wanted :: l) (w.alloc (.cells #[.int .i64 0, .int .i64 0, .int .i64 0, .int .i64 0, .string ⟨#[]⟩, .int .i64 0, .int .i64 0, .slice none 0 0, .int .u32 0, .int .i64 0, .slice none 0 0] 45)) := h.alloc hl2 (.cells zeroPdu 45 (0, 0))
  have k8 : (w.alloc (.cells #[.int .i64 0, .int .i64 0, .int .i64 0, .int .i64 0, .string ⟨#[]⟩, .int .i64 0, .int .i64 0, .slice none 0 0, .int .u32 0, .int .i64 0, .slice none 0 0] 45)).cell? ⟨q, 8, none⟩ = some (.int .i64 (s.phase + 1)) := (Sts.refC hz.tail).k8
  have hP := cClock (stabC (blkP_stable _ _) hl) zh q s (.slice da s1.data.length dc) (Sts.shutRef (s := s) (wv := wv0) (Sts.second hz.swap)) now
  rw [hp1] at hP
  have HP := hid hP
  have HL := hid hl
  clear hP h hz hs hl2 hl hp1 hdl
  have HT := hid h5
  have htt : f < tt ∧ tt ≤ s1.data.length := by omega
  have hfc : IntKind.i64.wrap ((f : Int) + (c : Int)) = (f : Int) + (c : Int) := by rw [IntKind.wrap_i64]; omega
  have HC := hid h2x
  have HWL := hid hwl
  have HW := hid hw
  clear h5 h2x hwl hw
  go_enter Try.func76, Try.ntmps76
  go_wp2_with (first | (go_at_call 109; refine HP.out.mono ?_; rintro e w1 ⟨rfl, h1⟩; obtain ⟨wv, h2⟩ := Sts.openRef h1; have H1 := hid h1; have H2 := hid h2; have hC := Sts.refC h2; have r8 := hC.k8; have r13 := hC.k13; have r17 := hC.k17; have r15 := hC.k15; have r18 := hC.k18; have r5 := hC.k5; clear hC; rw [c1] at r13; clear c1; rw [c2] at r17; clear c2; rw [c3] at r8; rw [c5] at r15; clear c3 c5; have hrd : RdR w1 wv s1.wanted := (by obtain ⟨F, hF⟩ := h2.tail.head; exact ownW.rd hF (HZR.out _ _ h2.tail.tail)); obtain ⟨wa, wc, hwe⟩ := hrd.eq; subst hwe; obtain ⟨b, off, hab, hb, c0, c1, hm⟩ : ∃ b off, wa = some ⟨b, off, none⟩ ∧ b < w1.heap.size ∧ w1.cell? ⟨b, off, none⟩ = some (.int .i64 (f : Int)) ∧ w1.cell? ⟨b, off + 1, none⟩ = some (.int .i64 (t : Int)) ∧ s1.wanted.length = rest.length + 1 := (by obtain ⟨a', c', e', _, hx⟩ := hrd; injection e' with e1 e2 e3; subst e1; obtain ⟨b, off, g1, g2, g3, g4⟩ := hx 0 (by rw [HW.out]; simp); refine ⟨b, off, g1, g2, by simpa [HW.out] using g3, by simpa [HW.out] using g4, by rw [HW.out]; rfl⟩); subst hab; rw [hm] at r18; have HQ2 := hid (show ∀ y, Sts W (blkP q (.cells (s1.rcs (.slice da s1.data.length dc) (.slice (some ⟨b, off, none⟩) s1.wanted.length wc)) 38 (0, 0)) :: ownW zh (.slice (some ⟨b, off, none⟩) s1.wanted.length wc) s1.wanted :: blkP w.heap.size (.cells zeroPdu 45 (0, 0)) :: l) y → RdR y (.slice (some ⟨b, off, none⟩) s1.wanted.length wc) s1.wanted from fun y hy => by obtain ⟨F, hF⟩ := hy.tail.head; exact ownW.rd hF (HZR.out _ _ hy.tail.tail)); clear hrd; have HB := hid (h2.alloc (stabC (blkP_stable _ _) (stabC (ownW_stable _ _ _) (stabC (blkP_stable _ _) HL.out))) (.cells #[.int .i64 0, .int .i64 0] 81)); have hpos : decide (((rest.length + 1 : Nat) : Int) > 0) = true := (by simp); clear h1 h2) | (refine wpList_agg HB.out (stabC (blkP_stable _ _) (stabC (ownW_stable _ _ _) (stabC (blkP_stable _ _) HL.out))) rfl (.tmp 6) (.tmp 92) 81 rfl #[.int .i64 (f : Int), .int .i64 (t : Int)] rfl rfl sizeR rfl rfl ?_; intro w3 hz; have HX := hid (show Sts W (blkP w1.heap.size (.cells #[.int .i64 (f : Int), .int .i64 (t : Int)] 81 (0, 0)) :: blkP q (.cells (s1.rcs (.slice da s1.data.length dc) (.slice (some ⟨b, off, none⟩) s1.wanted.length wc)) 38 (0, 0)) :: ownW zh (.slice (some ⟨b, off, none⟩) s1.wanted.length wc) s1.wanted :: blkP w.heap.size (.cells zeroPdu 45 (0, 0)) :: l) w3 from hz); clear hz hm))
  clear r8 r13 r17 r15 r18 r5 c0 c1 H1 HP H2 HB hpos
  have hlx : ∀ B ∈ blkP w1.heap.size (.cells #[.int .i64 (f : Int), .int .i64 (t : Int)] 81 (0, 0)) :: blkP q (.cells (s1.rcs (.slice da s1.data.length dc) (.slice (some ⟨b, off, none⟩) s1.wanted.length wc)) 38 (0, 0)) :: ownW zh (.slice (some ⟨b, off, none⟩) s1.wanted.length wc) s1.wanted :: blkP w.heap.size (.cells zeroPdu 45 (0, 0)) :: l, Stable B := stabC (blkP_stable _ _) (stabC (blkP_stable _ _) (stabC (ownW_stable _ _ _) (stabC (blkP_stable _ _) HL.out)))
  refine wp_region_ordS (fun i => i == 12) (.pure 0 (.pure 1 (.pure 2 (.pure 3 (.pure 4 (.pure 5 (.pure 6 (.pure 7 (.pure 8 (.pure 9 (.pure 10 (.pure 11 (.eff 12 .nil))))))))))))) (fun y => RefC y q s1 (.slice da s1.data.length dc) (.slice (some ⟨b, off, none⟩) s1.wanted.length wc) ∧ y.cell? ⟨w1.heap.size, 0, none⟩ = some (.int .i64 (f : Int)) ∧ y.cell? ⟨w1.heap.size, 1, none⟩ = some (.int .i64 (t : Int))) (fun y => Sts W (blkP w1.heap.size (.cells #[.int .i64 (f : Int), .int .i64 (t : Int)] 81 (0, 0)) :: blkP q (.cells (s1.rcs (.slice da s1.data.length dc) (.slice (some ⟨b, off, none⟩) s1.wanted.length wc)) 38 (0, 0)) :: ownW zh (.slice (some ⟨b, off, none⟩) s1.wanted.length wc) s1.wanted :: blkP w.heap.size (.cells zeroPdu 45 (0, 0)) :: l) y) (by kernel_rfl) (by kernel_rfl) (HX.out.drew hlx) (fun y hy => ⟨Sts.refC hy.tail, (Sts.boxCell hy 0 _ rfl).1, (Sts.boxCell hy 1 _ rfl).1⟩) ?_
  clear hlx
  iterate 10
    (apply ord_pure (ho := rfl)
     · go_simp
     · intro x hx; obtain ⟨hC, q1, q2⟩ := hx; have k5 := hC.k5; rw [HC.out] at k5; have k18 := hC.k18; clear hC; go_simp; rfl
     apply ord_norm
     · go_simp; rfl)
  (refine ord_pure _ (.int .i64 ((tt : Nat) : Int)) rfl ?_ ?_ ?_
   · go_simp
   · intro x hx; have h5 := HT.out; go_simp; first | done | omega | (split <;> omega)
   apply ord_norm
   · go_simp; rfl)
  iterate 1
    (apply ord_pure (ho := rfl)
     · go_simp
     · intro x hx; obtain ⟨hC, q1, q2⟩ := hx; have k5 := hC.k5; rw [HC.out] at k5; have k18 := hC.k18; clear hC; go_simp; rfl
     apply ord_norm
     · go_simp; rfl)
  apply ord_eff (ho := rfl)
  · go_simp
  intro y hy
  have q1 := (Sts.boxCell hy 1 _ rfl).1
  have q2 := (Sts.boxCell hy 1 _ rfl).2
  have hy2 := Sts.store (stabC (blkP_stable _ _) (stabC (ownW_stable _ _ _) (stabC (blkP_stable _ _) HL.out))) hy (j := 1) (.int .i64 ((tt : Nat) : Int))
  refine effS_skip (fun _ => True) (fun y => Sts W (blkP w1.heap.size (.cells #[.int .i64 (f : Int), .int .i64 (tt : Int)] 81 (0, 0)) :: blkP q (.cells (s1.rcs (.slice da s1.data.length dc) (.slice (some ⟨b, off, none⟩) s1.wanted.length wc)) 38 (0, 0)) :: ownW zh (.slice (some ⟨b, off, none⟩) s1.wanted.length wc) s1.wanted :: blkP w.heap.size (.cells zeroPdu 45 (0, 0)) :: l) y) (w := y.setCell ⟨w1.heap.size, 1, none⟩ (.int .i64 ((tt : Nat) : Int))) rfl ?_ hy2 (fun _ _ => trivial) ?_
  · clear hy hy2
    go_simp
  clear hy hy2 q1 q2 y
  apply ord_norm
  · go_simp; rfl
  refine ord_nil fun z hz => ?_
  have HY := hid hz
  clear hz HX
  go_wp2_with fail
  have hlx : ∀ B ∈ blkP w1.heap.size (.cells #[.int .i64 (f : Int), .int .i64 (tt : Int)] 81 (0, 0)) :: blkP q (.cells (s1.rcs (.slice da s1.data.length dc) (.slice (some ⟨b, off, none⟩) s1.wanted.length wc)) 38 (0, 0)) :: ownW zh (.slice (some ⟨b, off, none⟩) s1.wanted.length wc) s1.wanted :: blkP w.heap.size (.cells zeroPdu 45 (0, 0)) :: l, Stable B := stabC (blkP_stable _ _) (stabC (blkP_stable _ _) (stabC (ownW_stable _ _ _) (stabC (blkP_stable _ _) HL.out)))
  refine wp_region_ordS (fun i => i == 9) (.pure 0 (.pure 1 (.pure 2 (.pure 3 (.pure 4 (.pure 5 (.eff 6 (.pure 7 (.pure 8 (.eff 9 .nil)))))))))) (fun y => RefC y q s1 (.slice da s1.data.length dc) (.slice (some ⟨b, off, none⟩) s1.wanted.length wc) ∧ y.cell? ⟨w1.heap.size, 0, none⟩ = some (.int .i64 (f : Int)) ∧ y.cell? ⟨w1.heap.size, 1, none⟩ = some (.int .i64 (tt : Int))) (fun y => Sts W (blkP w1.heap.size (.cells #[.int .i64 (f : Int), .int .i64 (tt : Int)] 81 (0, 0)) :: blkP q (.cells (s1.rcs (.slice da s1.data.length dc) (.slice (some ⟨b, off, none⟩) s1.wanted.length wc)) 38 (0, 0)) :: ownW zh (.slice (some ⟨b, off, none⟩) s1.wanted.length wc) s1.wanted :: blkP w.heap.size (.cells zeroPdu 45 (0, 0)) :: l) y) (by kernel_rfl) (by kernel_rfl) (HY.out.drew hlx) (fun y hy => ⟨Sts.refC hy.tail, (Sts.boxCell hy 0 _ rfl).1, (Sts.boxCell hy 1 _ rfl).1⟩) ?_
  iterate 6
    (apply ord_pure (ho := rfl)
     · go_simp
     · intro x hx; obtain ⟨hC, q1, q2⟩ := hx; have k5 := hC.k5; rw [HC.out] at k5; have k18 := hC.k18; clear hC; go_simp; rfl
     apply ord_norm
     · go_simp; rfl)
  apply ord_eff (ho := rfl)
  · go_simp
  intro y hy
  refine eff_call (f := 95) (by go_simp) (cRefRemove y (.slice (some ⟨b, off, none⟩) s1.wanted.length wc) s1.wanted (f : Int) (tt : Int) (HQ2.out y hy.tail) HWL.out) ?_
  rintro e w2 ⟨r2, rfl, hN⟩
  have hs2 := Sts.newR hlx hy hN
  refine ⟨_, rfl, (fun y => RefC y q s1 (.slice da s1.data.length dc) (.slice (some ⟨b, off, none⟩) s1.wanted.length wc) ∧ y.cell? ⟨w1.heap.size, 0, none⟩ = some (.int .i64 (f : Int)) ∧ y.cell? ⟨w1.heap.size, 1, none⟩ = some (.int .i64 (tt : Int))), (fun y => Sts W (rowP 81 2 r2 (Rng.remV s1.wanted ((f : Int), (tt : Int))).length (Fil.rcells (Rng.remV s1.wanted ((f : Int), (tt : Int)))) :: blkP w1.heap.size (.cells #[.int .i64 (f : Int), .int .i64 (tt : Int)] 81 (0, 0)) :: blkP q (.cells (s1.rcs (.slice da s1.data.length dc) (.slice (some ⟨b, off, none⟩) s1.wanted.length wc)) 38 (0, 0)) :: ownW zh (.slice (some ⟨b, off, none⟩) s1.wanted.length wc) s1.wanted :: blkP w.heap.size (.cells zeroPdu 45 (0, 0)) :: l) y), hs2, (fun y hy => ⟨Sts.refC hy.tail.tail, (Sts.boxCell hy.tail 0 _ rfl).1, (Sts.boxCell hy.tail 1 _ rfl).1⟩), (fun _ h => h), ?_⟩
  have HRE := hid hN.rd.eq
  clear hs2 hN hy y hlx
  apply ord_norm
  · go_simp; rfl
  iterate 2
    (apply ord_pure (ho := rfl)
     · go_simp
     · intro x hx; obtain ⟨hC, q1, q2⟩ := hx; have k5 := hC.k5; rw [HC.out] at k5; have k18 := hC.k18; clear hC; go_simp; rfl
     apply ord_norm
     · go_simp; rfl)
  apply ord_eff (ho := rfl)
  · go_simp
  intro y hy
  have hp1 := (hy.perm (List.perm_middle (l₁ := [_, _, _]) (l₂ := _ :: l))).tail
  have hp2 := hp1.perm (List.perm_middle (l₁ := [_, _]) (l₂ := _ :: l))
  have k18 := (Sts.refC hp2).k18
  have f18 := (Sts.refC hp2).fr 18
  have hst := Sts.store (stabC (rowP_stable _ _ _ _ _) (stabC (blkP_stable _ _) (stabC (blkP_stable _ _) HL.out))) hp2 (j := 18) r2
  obtain ⟨ra, rc, hre⟩ := HRE.out
  refine effS_skip (fun _ => True) (fun y => Sts W (blkP q (.cells (({ s1 with wanted := Rng.remV s1.wanted ((f : Int), (tt : Int)) }).rcs (.slice da s1.data.length dc) r2) 38 (0, 0)) :: rowP 81 2 r2 (Rng.remV s1.wanted ((f : Int), (tt : Int))).length (Fil.rcells (Rng.remV s1.wanted ((f : Int), (tt : Int)))) :: blkP w1.heap.size (.cells #[.int .i64 (f : Int), .int .i64 (tt : Int)] 81 (0, 0)) :: blkP w.heap.size (.cells zeroPdu 45 (0, 0)) :: l) y) (w := y.setCell ⟨q, 18, none⟩ r2) rfl ?_ hst (fun _ _ => trivial) ?_
  · clear hst hp1 hp2 hy HRE
    subst hre
    go_simp
  clear hst hp1 hp2 hy k18 f18 y hre
  apply ord_norm
  · go_simp; rfl
  refine ord_nil fun z hz => ?_
  clear HY
  have b0 := (Sts.boxCell hz.tail.tail 0 _ rfl).1
  have b1 := (Sts.boxCell hz.tail.tail 1 _ rfl).1
  have hs1 := Sts.shutRef (z := zh) (s := { s1 with wanted := Rng.remV s1.wanted ((f : Int), (tt : Int)) }) (wv := r2) ((hz.swap.weaken (B := ownW zh r2 (Rng.remV s1.wanted ((f : Int), (tt : Int)))) (fun F h => Or.inr h)).swap)
  have HM := hid (cRPiece (stabC (blkP_stable _ _) (stabC (blkP_stable _ _) HL.out)) zh q { s1 with wanted := Rng.remV s1.wanted ((f : Int), (tt : Int)) } da dc hs1 HD.out hn f tt htt.1 htt.2)
  clear hs1 hz
  go_wp2_with (first | (go_at_call 112; refine HM.out.mono ?_; rintro e w4 ⟨pa, pc, rfl, hw⟩; have H4 := hid (hw.perm (List.perm_middle (l₁ := [_, _, _]) (l₂ := l))); clear hw) | (refine wpList_agg H4.out (stabC (refP_stable _ _ _ _) (stabC (rowP_stable _ _ _ _ _) (stabC (blkP_stable _ _) HL.out))) rfl (.tmp 4) (.tmp 119) 45 rfl ((Fil.pieceP s1 f pa ((s1.data.drop f).take (tt - f)) pc).cells) rfl rfl sizePdu rfl rfl ?_; intro w5 hz; have HF := hid hz; clear hz))
  exact post_cell2 HF.out Try.results76 rfl rfl (ldPdu rfl HF.out) _ rfl ⟨pa, pc, rfl, (HF.out.tail.perm (List.perm_middle (l₁ := [_, _]) (l₂ := l))).tail⟩
set_option maxRecDepth 100000 in
set_option maxHeartbeats 2000000 in
theorem cRNextAgain1 (c1 : s1.susp = false) (c2 : s1.due = false) (c3 : s1.phase = 1) (c5 : s1.mreq = false) (hzr : ∀ A y, Sts W (A :: l) y → RdR y zh.1 zh.2) (hd : RdB W (.slice da s1.data.length dc) s1.data) (hn : s1.data.length < 100000000) (f t c tt : Nat) (rest : List Rng.R) (hw : s1.wanted = ((f : Int), (t : Int)) :: rest) (hft : f < t) (ht : t ≤ s1.data.length) (h2x : s1.chunk = (c : Int)) (h4 : 0 < c ∧ c ≤ 512) (h5 : tt = min t (f + c)) (hwl : s1.wanted.length < 200000) : Calls Try.prog 76 #[.pointer (some ⟨q, 0, none⟩), .int .i64 now] w fun e w' => ∃ pa pc, e = .returned (.tuple #[.agg (Fil.pieceP s1 f pa ((s1.data.drop f).take (tt - f)) pc).cells, .bool true]) ∧ Sts W (refP zh q ({ s1 with wanted := Rng.remV s1.wanted ((f : Int), (tt : Int)) }) (.slice da s1.data.length dc) :: rowP 5 1 (.slice pa ((s1.data.drop f).take (tt - f)).length pc) ((s1.data.drop f).take (tt - f)).length (u8s ((s1.data.drop f).take (tt - f))) :: l) w' := by
  have HZR := hid hzr
  clear hzr
  have HD := hid hd
  clear hd
  rw [hdl] at hs
  obtain ⟨wv0, h⟩ := Sts.openRef hs
  have hl2 : ∀ B ∈ blkP q (.cells ((s).rcs (.slice da s1.data.length dc) wv0) 38 (0, 0)) :: ownW zh wv0 s.wanted :: l, Stable B := stabC (blkP_stable _ _) (stabC (ownW_stable _ _ _) hl)
  have hz : Sts W (blkP w.heap.size (.cells zeroPdu 45 (0, 0)) :: blkP q (.cells ((s).rcs (.slice da s1.data.length dc) wv0) 38 (0, 0)) :: ownW zh wv0 s.wanted :: l) (w.alloc (.cells #[.int .i64 0, .int .i64 0, .int .i64 0, .int .i64 0, .string ⟨#[]⟩, .int .i64 0, .int .i64 0, .slice none 0 0, .int .u32 0, .int .i64 0, .slice none 0 0] 45)) := h.alloc hl2 (.cells zeroPdu 45 (0, 0))
  have k8 : (w.alloc (.cells #[.int .i64 0, .int .i64 0, .int .i64 0, .int .i64 0, .string ⟨#[]⟩, .int .i64 0, .int .i64 0, .slice none 0 0, .int .u32 0, .int .i64 0, .slice none 0 0] 45)).cell? ⟨q, 8, none⟩ = some (.int .i64 (s.phase + 1)) := (Sts.refC hz.tail).k8
  have hP := cClock (stabC (blkP_stable _ _) hl) zh q s (.slice da s1.data.length dc) (Sts.shutRef (s := s) (wv := wv0) (Sts.second hz.swap)) now
  rw [hp1] at hP
  have HP := hid hP
  have HL := hid hl
  clear hP h hz hs hl2 hl hp1 hdl
  have HT := hid h5
  have htt : f < tt ∧ tt ≤ s1.data.length := by omega
  have hfc : IntKind.i64.wrap ((f : Int) + (c : Int)) = (f : Int) + (c : Int) := by rw [IntKind.wrap_i64]; omega
  have HC := hid h2x
  have HWL := hid hwl
  have HW := hid hw
  clear h5 h2x hwl hw
  go_enter Try.func76, Try.ntmps76
  go_wp2_with (first | (go_at_call 109; refine HP.out.mono ?_; rintro e w1 ⟨rfl, h1⟩; obtain ⟨wv, h2⟩ := Sts.openRef h1; have H1 := hid h1; have H2 := hid h2; have hC := Sts.refC h2; have r8 := hC.k8; have r13 := hC.k13; have r17 := hC.k17; have r15 := hC.k15; have r18 := hC.k18; have r5 := hC.k5; clear hC; rw [c1] at r13; clear c1; rw [c2] at r17; clear c2; rw [c3] at r8; rw [c5] at r15; clear c3 c5; have hrd : RdR w1 wv s1.wanted := (by obtain ⟨F, hF⟩ := h2.tail.head; exact ownW.rd hF (HZR.out _ _ h2.tail.tail)); obtain ⟨wa, wc, hwe⟩ := hrd.eq; subst hwe; obtain ⟨b, off, hab, hb, c0, c1, hm⟩ : ∃ b off, wa = some ⟨b, off, none⟩ ∧ b < w1.heap.size ∧ w1.cell? ⟨b, off, none⟩ = some (.int .i64 (f : Int)) ∧ w1.cell? ⟨b, off + 1, none⟩ = some (.int .i64 (t : Int)) ∧ s1.wanted.length = rest.length + 1 := (by obtain ⟨a', c', e', _, hx⟩ := hrd; injection e' with e1 e2 e3; subst e1; obtain ⟨b, off, g1, g2, g3, g4⟩ := hx 0 (by rw [HW.out]; simp); refine ⟨b, off, g1, g2, by simpa [HW.out] using g3, by simpa [HW.out] using g4, by rw [HW.out]; rfl⟩); subst hab; rw [hm] at r18; have HQ2 := hid (show ∀ y, Sts W (blkP q (.cells (s1.rcs (.slice da s1.data.length dc) (.slice (some ⟨b, off, none⟩) s1.wanted.length wc)) 38 (0, 0)) :: ownW zh (.slice (some ⟨b, off, none⟩) s1.wanted.length wc) s1.wanted :: blkP w.heap.size (.cells zeroPdu 45 (0, 0)) :: l) y → RdR y (.slice (some ⟨b, off, none⟩) s1.wanted.length wc) s1.wanted from fun y hy => by obtain ⟨F, hF⟩ := hy.tail.head; exact ownW.rd hF (HZR.out _ _ hy.tail.tail)); clear hrd; have HB := hid (h2.alloc (stabC (blkP_stable _ _) (stabC (ownW_stable _ _ _) (stabC (blkP_stable _ _) HL.out))) (.cells #[.int .i64 0, .int .i64 0] 81)); have hpos : decide (((rest.length + 1 : Nat) : Int) > 0) = true := (by simp); clear h1 h2) | (refine wpList_agg HB.out (stabC (blkP_stable _ _) (stabC (ownW_stable _ _ _) (stabC (blkP_stable _ _) HL.out))) rfl (.tmp 6) (.tmp 92) 81 rfl #[.int .i64 (f : Int), .int .i64 (t : Int)] rfl rfl sizeR rfl rfl ?_; intro w3 hz; have HX := hid (show Sts W (blkP w1.heap.size (.cells #[.int .i64 (f : Int), .int .i64 (t : Int)] 81 (0, 0)) :: blkP q (.cells (s1.rcs (.slice da s1.data.length dc) (.slice (some ⟨b, off, none⟩) s1.wanted.length wc)) 38 (0, 0)) :: ownW zh (.slice (some ⟨b, off, none⟩) s1.wanted.length wc) s1.wanted :: blkP w.heap.size (.cells zeroPdu 45 (0, 0)) :: l) w3 from hz); clear hz hm))
  clear r8 r13 r17 r15 r18 r5 c0 c1 H1 HP H2 HB hpos
  have hlx : ∀ B ∈ blkP w1.heap.size (.cells #[.int .i64 (f : Int), .int .i64 (t : Int)] 81 (0, 0)) :: blkP q (.cells (s1.rcs (.slice da s1.data.length dc) (.slice (some ⟨b, off, none⟩) s1.wanted.length wc)) 38 (0, 0)) :: ownW zh (.slice (some ⟨b, off, none⟩) s1.wanted.length wc) s1.wanted :: blkP w.heap.size (.cells zeroPdu 45 (0, 0)) :: l, Stable B := stabC (blkP_stable _ _) (stabC (blkP_stable _ _) (stabC (ownW_stable _ _ _) (stabC (blkP_stable _ _) HL.out)))
  refine wp_region_ordS (fun i => i == 12) (.pure 0 (.pure 1 (.pure 2 (.pure 3 (.pure 4 (.pure 5 (.pure 6 (.pure 7 (.pure 8 (.pure 9 (.pure 10 (.pure 11 (.eff 12 .nil))))))))))))) (fun y => RefC y q s1 (.slice da s1.data.length dc) (.slice (some ⟨b, off, none⟩) s1.wanted.length wc) ∧ y.cell? ⟨w1.heap.size, 0, none⟩ = some (.int .i64 (f : Int)) ∧ y.cell? ⟨w1.heap.size, 1, none⟩ = some (.int .i64 (t : Int))) (fun y => Sts W (blkP w1.heap.size (.cells #[.int .i64 (f : Int), .int .i64 (t : Int)] 81 (0, 0)) :: blkP q (.cells (s1.rcs (.slice da s1.data.length dc) (.slice (some ⟨b, off, none⟩) s1.wanted.length wc)) 38 (0, 0)) :: ownW zh (.slice (some ⟨b, off, none⟩) s1.wanted.length wc) s1.wanted :: blkP w.heap.size (.cells zeroPdu 45 (0, 0)) :: l) y) (by kernel_rfl) (by kernel_rfl) (HX.out.drew hlx) (fun y hy => ⟨Sts.refC hy.tail, (Sts.boxCell hy 0 _ rfl).1, (Sts.boxCell hy 1 _ rfl).1⟩) ?_
  clear hlx
  iterate 10
    (apply ord_pure (ho := rfl)
     · go_simp
     · intro x hx; obtain ⟨hC, q1, q2⟩ := hx; have k5 := hC.k5; rw [HC.out] at k5; have k18 := hC.k18; clear hC; go_simp; rfl
     apply ord_norm
     · go_simp; rfl)
  (refine ord_pure _ (.int .i64 ((tt : Nat) : Int)) rfl ?_ ?_ ?_
   · go_simp
   · intro x hx; have h5 := HT.out; go_simp; first | done | omega | (split <;> omega)
   apply ord_norm
   · go_simp; rfl)
  iterate 1
    (apply ord_pure (ho := rfl)
     · go_simp
     · intro x hx; obtain ⟨hC, q1, q2⟩ := hx; have k5 := hC.k5; rw [HC.out] at k5; have k18 := hC.k18; clear hC; go_simp; rfl
     apply ord_norm
     · go_simp; rfl)
  apply ord_eff (ho := rfl)
  · go_simp
  intro y hy
  have q1 := (Sts.boxCell hy 1 _ rfl).1
  have q2 := (Sts.boxCell hy 1 _ rfl).2
  have hy2 := Sts.store (stabC (blkP_stable _ _) (stabC (ownW_stable _ _ _) (stabC (blkP_stable _ _) HL.out))) hy (j := 1) (.int .i64 ((tt : Nat) : Int))
  refine effS_skip (fun _ => True) (fun y => Sts W (blkP w1.heap.size (.cells #[.int .i64 (f : Int), .int .i64 (tt : Int)] 81 (0, 0)) :: blkP q (.cells (s1.rcs (.slice da s1.data.length dc) (.slice (some ⟨b, off, none⟩) s1.wanted.length wc)) 38 (0, 0)) :: ownW zh (.slice (some ⟨b, off, none⟩) s1.wanted.length wc) s1.wanted :: blkP w.heap.size (.cells zeroPdu 45 (0, 0)) :: l) y) (w := y.setCell ⟨w1.heap.size, 1, none⟩ (.int .i64 ((tt : Nat) : Int))) rfl ?_ hy2 (fun _ _ => trivial) ?_
  · clear hy hy2
    go_simp
  clear hy hy2 q1 q2 y
  apply ord_norm
  · go_simp; rfl
  refine ord_nil fun z hz => ?_
  have HY := hid hz
  clear hz HX
  go_wp2_with fail
  have hlx : ∀ B ∈ blkP w1.heap.size (.cells #[.int .i64 (f : Int), .int .i64 (tt : Int)] 81 (0, 0)) :: blkP q (.cells (s1.rcs (.slice da s1.data.length dc) (.slice (some ⟨b, off, none⟩) s1.wanted.length wc)) 38 (0, 0)) :: ownW zh (.slice (some ⟨b, off, none⟩) s1.wanted.length wc) s1.wanted :: blkP w.heap.size (.cells zeroPdu 45 (0, 0)) :: l, Stable B := stabC (blkP_stable _ _) (stabC (blkP_stable _ _) (stabC (ownW_stable _ _ _) (stabC (blkP_stable _ _) HL.out)))
  refine wp_region_ordS (fun i => i == 9) (.pure 0 (.pure 1 (.pure 2 (.pure 3 (.pure 4 (.pure 5 (.eff 6 (.pure 7 (.pure 8 (.eff 9 .nil)))))))))) (fun y => RefC y q s1 (.slice da s1.data.length dc) (.slice (some ⟨b, off, none⟩) s1.wanted.length wc) ∧ y.cell? ⟨w1.heap.size, 0, none⟩ = some (.int .i64 (f : Int)) ∧ y.cell? ⟨w1.heap.size, 1, none⟩ = some (.int .i64 (tt : Int))) (fun y => Sts W (blkP w1.heap.size (.cells #[.int .i64 (f : Int), .int .i64 (tt : Int)] 81 (0, 0)) :: blkP q (.cells (s1.rcs (.slice da s1.data.length dc) (.slice (some ⟨b, off, none⟩) s1.wanted.length wc)) 38 (0, 0)) :: ownW zh (.slice (some ⟨b, off, none⟩) s1.wanted.length wc) s1.wanted :: blkP w.heap.size (.cells zeroPdu 45 (0, 0)) :: l) y) (by kernel_rfl) (by kernel_rfl) (HY.out.drew hlx) (fun y hy => ⟨Sts.refC hy.tail, (Sts.boxCell hy 0 _ rfl).1, (Sts.boxCell hy 1 _ rfl).1⟩) ?_
  iterate 6
    (apply ord_pure (ho := rfl)
     · go_simp
     · intro x hx; obtain ⟨hC, q1, q2⟩ := hx; have k5 := hC.k5; rw [HC.out] at k5; have k18 := hC.k18; clear hC; go_simp; rfl
     apply ord_norm
     · go_simp; rfl)
  apply ord_eff (ho := rfl)
  · go_simp
  intro y hy
  refine eff_call (f := 95) (by go_simp) (cRefRemove y (.slice (some ⟨b, off, none⟩) s1.wanted.length wc) s1.wanted (f : Int) (tt : Int) (HQ2.out y hy.tail) HWL.out) ?_
  rintro e w2 ⟨r2, rfl, hN⟩
  have hs2 := Sts.newR hlx hy hN
  refine ⟨_, rfl, (fun y => RefC y q s1 (.slice da s1.data.length dc) (.slice (some ⟨b, off, none⟩) s1.wanted.length wc) ∧ y.cell? ⟨w1.heap.size, 0, none⟩ = some (.int .i64 (f : Int)) ∧ y.cell? ⟨w1.heap.size, 1, none⟩ = some (.int .i64 (tt : Int))), (fun y => Sts W (rowP 81 2 r2 (Rng.remV s1.wanted ((f : Int), (tt : Int))).length (Fil.rcells (Rng.remV s1.wanted ((f : Int), (tt : Int)))) :: blkP w1.heap.size (.cells #[.int .i64 (f : Int), .int .i64 (tt : Int)] 81 (0, 0)) :: blkP q (.cells (s1.rcs (.slice da s1.data.length dc) (.slice (some ⟨b, off, none⟩) s1.wanted.length wc)) 38 (0, 0)) :: ownW zh (.slice (some ⟨b, off, none⟩) s1.wanted.length wc) s1.wanted :: blkP w.heap.size (.cells zeroPdu 45 (0, 0)) :: l) y), hs2, (fun y hy => ⟨Sts.refC hy.tail.tail, (Sts.boxCell hy.tail 0 _ rfl).1, (Sts.boxCell hy.tail 1 _ rfl).1⟩), (fun _ h => h), ?_⟩
  have HRE := hid hN.rd.eq
  clear hs2 hN hy y hlx
  apply ord_norm
  · go_simp; rfl
  iterate 2
    (apply ord_pure (ho := rfl)
     · go_simp
     · intro x hx; obtain ⟨hC, q1, q2⟩ := hx; have k5 := hC.k5; rw [HC.out] at k5; have k18 := hC.k18; clear hC; go_simp; rfl
     apply ord_norm
     · go_simp; rfl)
  apply ord_eff (ho := rfl)
  · go_simp
  intro y hy
  have hp1 := (hy.perm (List.perm_middle (l₁ := [_, _, _]) (l₂ := _ :: l))).tail
  have hp2 := hp1.perm (List.perm_middle (l₁ := [_, _]) (l₂ := _ :: l))
  have k18 := (Sts.refC hp2).k18
  have f18 := (Sts.refC hp2).fr 18
  have hst := Sts.store (stabC (rowP_stable _ _ _ _ _) (stabC (blkP_stable _ _) (stabC (blkP_stable _ _) HL.out))) hp2 (j := 18) r2
  obtain ⟨ra, rc, hre⟩ := HRE.out
  refine effS_skip (fun _ => True) (fun y => Sts W (blkP q (.cells (({ s1 with wanted := Rng.remV s1.wanted ((f : Int), (tt : Int)) }).rcs (.slice da s1.data.length dc) r2) 38 (0, 0)) :: rowP 81 2 r2 (Rng.remV s1.wanted ((f : Int), (tt : Int))).length (Fil.rcells (Rng.remV s1.wanted ((f : Int), (tt : Int)))) :: blkP w1.heap.size (.cells #[.int .i64 (f : Int), .int .i64 (tt : Int)] 81 (0, 0)) :: blkP w.heap.size (.cells zeroPdu 45 (0, 0)) :: l) y) (w := y.setCell ⟨q, 18, none⟩ r2) rfl ?_ hst (fun _ _ => trivial) ?_
  · clear hst hp1 hp2 hy HRE
    subst hre
    go_simp
  clear hst hp1 hp2 hy k18 f18 y hre
  apply ord_norm
  · go_simp; rfl
  refine ord_nil fun z hz => ?_
  clear HY
  have b0 := (Sts.boxCell hz.tail.tail 0 _ rfl).1
  have b1 := (Sts.boxCell hz.tail.tail 1 _ rfl).1
  have hs1 := Sts.shutRef (z := zh) (s := { s1 with wanted := Rng.remV s1.wanted ((f : Int), (tt : Int)) }) (wv := r2) ((hz.swap.weaken (B := ownW zh r2 (Rng.remV s1.wanted ((f : Int), (tt : Int)))) (fun F h => Or.inr h)).swap)
  have HM := hid (cRPiece (stabC (blkP_stable _ _) (stabC (blkP_stable _ _) HL.out)) zh q { s1 with wanted := Rng.remV s1.wanted ((f : Int), (tt : Int)) } da dc hs1 HD.out hn f tt htt.1 htt.2)
  clear hs1 hz
  go_wp2_with (first | (go_at_call 112; refine HM.out.mono ?_; rintro e w4 ⟨pa, pc, rfl, hw⟩; have H4 := hid (hw.perm (List.perm_middle (l₁ := [_, _, _]) (l₂ := l))); clear hw) | (refine wpList_agg H4.out (stabC (refP_stable _ _ _ _) (stabC (rowP_stable _ _ _ _ _) (stabC (blkP_stable _ _) HL.out))) rfl (.tmp 4) (.tmp 119) 45 rfl ((Fil.pieceP s1 f pa ((s1.data.drop f).take (tt - f)) pc).cells) rfl rfl sizePdu rfl rfl ?_; intro w5 hz; have HF := hid hz; clear hz))
  exact post_cell2 HF.out Try.results76 rfl rfl (ldPdu rfl HF.out) _ rfl ⟨pa, pc, rfl, (HF.out.tail.perm (List.perm_middle (l₁ := [_, _]) (l₂ := l))).tail⟩
end
end Go.Proofs.Ytfjadhkhmhnccaa
namespace Go.Proofs.Ytfjadhkhmhnccaa
open Go.RowKit Go.Proofs.Num
section
variable {W w : World} {l : List HProp} (hl : ∀ B ∈ l, Stable B) (zh : Value × List Rng.R) (q : Nat) (s : Fil.Src) (vd : Value) (hs : Sts W (refP zh q s vd :: l) w) (hz0 : (s.phase + 1 == 0) = false)
include hl hs hz0
set_option maxRecDepth 100000 in
theorem cRCanA (c1 : (s.phase + 1 != 1) = true) (c2 : (s.phase + 1 != 2) = true) : Calls Try.prog 75 #[.pointer (some ⟨q, 0, none⟩)] w fun e w' => e = .returned (.int .i64 12) ∧ Sts W (refP zh q s vd :: l) w' := by
  obtain ⟨wv, h⟩ := Sts.openRef hs
  have HS := hid h
  have HO := hid hs
  have HL := hid hl
  have hC := Sts.refC h; have r8 := hC.k8; clear hC
  clear h hs hl
  go_enter Try.func75, Try.ntmps75
  go_wp2_with fail
  go_ret
  exact ⟨rfl, HO.out⟩
omit hz0 in
set_option maxRecDepth 100000 in
set_option maxHeartbeats 1000000 in
theorem cRCanB0 (c1 : s.phase = 0) (c2 : s.cls = 2) : Calls Try.prog 75 #[.pointer (some ⟨q, 0, none⟩)] w fun e w' => e = .returned (.int .i64 0) ∧ Sts W (refP zh q { s with code := 17, mreq := false, wanted := [], susp := false, phase := 3 } vd :: l) w' := by
  obtain ⟨wv, h⟩ := Sts.openRef hs
  have HS := hid h
  have HO := hid hs
  have HL := hid hl
  have hC := Sts.refC h; have r8 := hC.k8; clear hC
  clear h hs hl
  rw [c1] at r8
  clear c1
  go_enter Try.func75, Try.ntmps75
  go_wp2_with (first | (refine wpList_cell HS.out (stabC (ownW_stable _ _ _) HL.out) rfl (.tmp 22) (.const (.int .i64 17)) 33 rfl 19 (.int .i64 17) rfl rfl szErr (show 19 < 20 by decide) rfl ?_; intro w3 hz; replace hz : Sts W (blkP q (.cells (({ s with code := 17 }).rcs vd wv) 38 (0, 0)) :: ownW zh wv s.wanted :: l) w3 := hz; have H0 := hid hz; clear hz) | (refine wpList_cell H0.out (stabC (ownW_stable _ _ _) HL.out) rfl (.tmp 25) (.const (.bool false)) 4 rfl 13 (.bool false) rfl rfl szBool (show 13 < 20 by decide) rfl ?_; intro w4 hz; replace hz : Sts W (blkP q (.cells (({ s with code := 17, susp := false }).rcs vd wv) 38 (0, 0)) :: ownW zh wv s.wanted :: l) w4 := hz; have H1 := hid hz; clear hz) | (refine wpList_cell H1.out (stabC (ownW_stable _ _ _) HL.out) rfl (.tmp 28) (.const (.bool false)) 4 rfl 15 (.bool false) rfl rfl szBool (show 15 < 20 by decide) rfl ?_; intro w5 hz; replace hz : Sts W (blkP q (.cells (({ s with code := 17, susp := false, mreq := false }).rcs vd wv) 38 (0, 0)) :: ownW zh wv s.wanted :: l) w5 := hz; have H2 := hid hz; clear hz) | (refine wpList_cell H2.out (stabC (ownW_stable _ _ _) HL.out) rfl (.tmp 31) (.const (.slice none 0 0)) 36 rfl 18 (.slice none 0 0) rfl rfl szRng (show 18 < 20 by decide) rfl ?_; intro w6 hz; replace hz : Sts W (blkP q (.cells (({ s with code := 17, susp := false, mreq := false }).rcs vd (.slice none 0 0)) 38 (0, 0)) :: ownW zh wv s.wanted :: l) w6 := hz; have H3 := hid hz; clear hz) | (refine wpList_cell H3.out (stabC (ownW_stable _ _ _) HL.out) rfl (.tmp 34) (.const (.int .i64 7)) 3 rfl 8 (.int .i64 7) rfl rfl szInt (show 8 < 20 by decide) rfl ?_; intro w7 hz; replace hz : Sts W (blkP q (.cells (({ s with code := 17, susp := false, mreq := false, phase := 6 }).rcs vd (.slice none 0 0)) 38 (0, 0)) :: ownW zh wv s.wanted :: l) w7 := hz; (try clear r2); have hC := Sts.refC hz; have r2 := hC.k2; clear hC; (try dsimp only at r2); have H4 := hid hz; rw [c2] at r2; clear hz) | (refine wpList_cell H4.out (stabC (ownW_stable _ _ _) HL.out) rfl (.tmp 42) (.const (.int .i64 4)) 3 rfl 8 (.int .i64 4) rfl rfl szInt (show 8 < 20 by decide) rfl ?_; intro w8 hz; replace hz : Sts W (blkP q (.cells (({ s with code := 17, susp := false, mreq := false, phase := 3 }).rcs vd (.slice none 0 0)) 38 (0, 0)) :: ownW zh wv s.wanted :: l) w8 := hz; have H5 := hid hz; clear hz))
  go_ret
  exact ⟨rfl, Sts.shutRef (s := { s with code := 17, mreq := false, wanted := [], susp := false, phase := 3 }) (wv := .slice none 0 0) ((Sts.rowNilK 81 2 H5.out.swap.tail).weaken (B := ownW zh (.slice none 0 0) []) (fun F h => Or.inr h)).swap⟩
omit hz0 in
set_option maxRecDepth 100000 in
set_option maxHeartbeats 1000000 in
theorem cRCanC0 (c1 : s.phase = 0) (c2 : (s.cls == 2) = false) : Calls Try.prog 75 #[.pointer (some ⟨q, 0, none⟩)] w fun e w' => e = .returned (.int .i64 0) ∧ Sts W (refP zh q { s with code := 17, mreq := false, wanted := [], susp := false, phase := 6 } vd :: l) w' := by
  obtain ⟨wv, h⟩ := Sts.openRef hs
  have HS := hid h
  have HO := hid hs
  have HL := hid hl
  have hC := Sts.refC h; have r8 := hC.k8; clear hC
  clear h hs hl
  rw [c1] at r8
  clear c1
  go_enter Try.func75, Try.ntmps75
  go_wp2_with (first | (refine wpList_cell HS.out (stabC (ownW_stable _ _ _) HL.out) rfl (.tmp 22) (.const (.int .i64 17)) 33 rfl 19 (.int .i64 17) rfl rfl szErr (show 19 < 20 by decide) rfl ?_; intro w3 hz; replace hz : Sts W (blkP q (.cells (({ s with code := 17 }).rcs vd wv) 38 (0, 0)) :: ownW zh wv s.wanted :: l) w3 := hz; have H0 := hid hz; clear hz) | (refine wpList_cell H0.out (stabC (ownW_stable _ _ _) HL.out) rfl (.tmp 25) (.const (.bool false)) 4 rfl 13 (.bool false) rfl rfl szBool (show 13 < 20 by decide) rfl ?_; intro w4 hz; replace hz : Sts W (blkP q (.cells (({ s with code := 17, susp := false }).rcs vd wv) 38 (0, 0)) :: ownW zh wv s.wanted :: l) w4 := hz; have H1 := hid hz; clear hz) | (refine wpList_cell H1.out (stabC (ownW_stable _ _ _) HL.out) rfl (.tmp 28) (.const (.bool false)) 4 rfl 15 (.bool false) rfl rfl szBool (show 15 < 20 by decide) rfl ?_; intro w5 hz; replace hz : Sts W (blkP q (.cells (({ s with code := 17, susp := false, mreq := false }).rcs vd wv) 38 (0, 0)) :: ownW zh wv s.wanted :: l) w5 := hz; have H2 := hid hz; clear hz) | (refine wpList_cell H2.out (stabC (ownW_stable _ _ _) HL.out) rfl (.tmp 31) (.const (.slice none 0 0)) 36 rfl 18 (.slice none 0 0) rfl rfl szRng (show 18 < 20 by decide) rfl ?_; intro w6 hz; replace hz : Sts W (blkP q (.cells (({ s with code := 17, susp := false, mreq := false }).rcs vd (.slice none 0 0)) 38 (0, 0)) :: ownW zh wv s.wanted :: l) w6 := hz; have H3 := hid hz; clear hz) | (refine wpList_cell H3.out (stabC (ownW_stable _ _ _) HL.out) rfl (.tmp 34) (.const (.int .i64 7)) 3 rfl 8 (.int .i64 7) rfl rfl szInt (show 8 < 20 by decide) rfl ?_; intro w7 hz; replace hz : Sts W (blkP q (.cells (({ s with code := 17, susp := false, mreq := false, phase := 6 }).rcs vd (.slice none 0 0)) 38 (0, 0)) :: ownW zh wv s.wanted :: l) w7 := hz; (try clear r2); have hC := Sts.refC hz; have r2 := hC.k2; clear hC; (try dsimp only at r2); have H4 := hid hz; clear hz))
  go_ret
  exact ⟨rfl, Sts.shutRef (s := { s with code := 17, mreq := false, wanted := [], susp := false, phase := 6 }) (wv := .slice none 0 0) ((Sts.rowNilK 81 2 H4.out.swap.tail).weaken (B := ownW zh (.slice none 0 0) []) (fun F h => Or.inr h)).swap⟩
omit hz0 in
set_option maxRecDepth 100000 in
set_option maxHeartbeats 1000000 in
theorem cRCanB1 (c1 : s.phase = 1) (c2 : s.cls = 2) : Calls Try.prog 75 #[.pointer (some ⟨q, 0, none⟩)] w fun e w' => e = .returned (.int .i64 0) ∧ Sts W (refP zh q { s with code := 17, mreq := false, wanted := [], susp := false, phase := 3 } vd :: l) w' := by
  obtain ⟨wv, h⟩ := Sts.openRef hs
  have HS := hid h
  have HO := hid hs
  have HL := hid hl
  have hC := Sts.refC h; have r8 := hC.k8; clear hC
  clear h hs hl
  rw [c1] at r8
  clear c1
  go_enter Try.func75, Try.ntmps75
  go_wp2_with (first | (refine wpList_cell HS.out (stabC (ownW_stable _ _ _) HL.out) rfl (.tmp 22) (.const (.int .i64 17)) 33 rfl 19 (.int .i64 17) rfl rfl szErr (show 19 < 20 by decide) rfl ?_; intro w3 hz; replace hz : Sts W (blkP q (.cells (({ s with code := 17 }).rcs vd wv) 38 (0, 0)) :: ownW zh wv s.wanted :: l) w3 := hz; have H0 := hid hz; clear hz) | (refine wpList_cell H0.out (stabC (ownW_stable _ _ _) HL.out) rfl (.tmp 25) (.const (.bool false)) 4 rfl 13 (.bool false) rfl rfl szBool (show 13 < 20 by decide) rfl ?_; intro w4 hz; replace hz : Sts W (blkP q (.cells (({ s with code := 17, susp := false }).rcs vd wv) 38 (0, 0)) :: ownW zh wv s.wanted :: l) w4 := hz; have H1 := hid hz; clear hz) | (refine wpList_cell H1.out (stabC (ownW_stable _ _ _) HL.out) rfl (.tmp 28) (.const (.bool false)) 4 rfl 15 (.bool false) rfl rfl szBool (show 15 < 20 by decide) rfl ?_; intro w5 hz; replace hz : Sts W (blkP q (.cells (({ s with code := 17, susp := false, mreq := false }).rcs vd wv) 38 (0, 0)) :: ownW zh wv s.wanted :: l) w5 := hz; have H2 := hid hz; clear hz) | (refine wpList_cell H2.out (stabC (ownW_stable _ _ _) HL.out) rfl (.tmp 31) (.const (.slice none 0 0)) 36 rfl 18 (.slice none 0 0) rfl rfl szRng (show 18 < 20 by decide) rfl ?_; intro w6 hz; replace hz : Sts W (blkP q (.cells (({ s with code := 17, susp := false, mreq := false }).rcs vd (.slice none 0 0)) 38 (0, 0)) :: ownW zh wv s.wanted :: l) w6 := hz; have H3 := hid hz; clear hz) | (refine wpList_cell H3.out (stabC (ownW_stable _ _ _) HL.out) rfl (.tmp 34) (.const (.int .i64 7)) 3 rfl 8 (.int .i64 7) rfl rfl szInt (show 8 < 20 by decide) rfl ?_; intro w7 hz; replace hz : Sts W (blkP q (.cells (({ s with code := 17, susp := false, mreq := false, phase := 6 }).rcs vd (.slice none 0 0)) 38 (0, 0)) :: ownW zh wv s.wanted :: l) w7 := hz; (try clear r2); have hC := Sts.refC hz; have r2 := hC.k2; clear hC; (try dsimp only at r2); have H4 := hid hz; rw [c2] at r2; clear hz) | (refine wpList_cell H4.out (stabC (ownW_stable _ _ _) HL.out) rfl (.tmp 42) (.const (.int .i64 4)) 3 rfl 8 (.int .i64 4) rfl rfl szInt (show 8 < 20 by decide) rfl ?_; intro w8 hz; replace hz : Sts W (blkP q (.cells (({ s with code := 17, susp := false, mreq := false, phase := 3 }).rcs vd (.slice none 0 0)) 38 (0, 0)) :: ownW zh wv s.wanted :: l) w8 := hz; have H5 := hid hz; clear hz))
  go_ret
  exact ⟨rfl, Sts.shutRef (s := { s with code := 17, mreq := false, wanted := [], susp := false, phase := 3 }) (wv := .slice none 0 0) ((Sts.rowNilK 81 2 H5.out.swap.tail).weaken (B := ownW zh (.slice none 0 0) []) (fun F h => Or.inr h)).swap⟩
omit hz0 in
set_option maxRecDepth 100000 in
set_option maxHeartbeats 1000000 in
theorem cRCanC1 (c1 : s.phase = 1) (c2 : (s.cls == 2) = false) : Calls Try.prog 75 #[.pointer (some ⟨q, 0, none⟩)] w fun e w' => e = .returned (.int .i64 0) ∧ Sts W (refP zh q { s with code := 17, mreq := false, wanted := [], susp := false, phase := 6 } vd :: l) w' := by
  obtain ⟨wv, h⟩ := Sts.openRef hs
  have HS := hid h
  have HO := hid hs
  have HL := hid hl
  have hC := Sts.refC h; have r8 := hC.k8; clear hC
  clear h hs hl
  rw [c1] at r8
  clear c1
  go_enter Try.func75, Try.ntmps75
  go_wp2_with (first | (refine wpList_cell HS.out (stabC (ownW_stable _ _ _) HL.out) rfl (.tmp 22) (.const (.int .i64 17)) 33 rfl 19 (.int .i64 17) rfl rfl szErr (show 19 < 20 by decide) rfl ?_; intro w3 hz; replace hz : Sts W (blkP q (.cells (({ s with code := 17 }).rcs vd wv) 38 (0, 0)) :: ownW zh wv s.wanted :: l) w3 := hz; have H0 := hid hz; clear hz) | (refine wpList_cell H0.out (stabC (ownW_stable _ _ _) HL.out) rfl (.tmp 25) (.const (.bool false)) 4 rfl 13 (.bool false) rfl rfl szBool (show 13 < 20 by decide) rfl ?_; intro w4 hz; replace hz : Sts W (blkP q (.cells (({ s with code := 17, susp := false }).rcs vd wv) 38 (0, 0)) :: ownW zh wv s.wanted :: l) w4 := hz; have H1 := hid hz; clear hz) | (refine wpList_cell H1.out (stabC (ownW_stable _ _ _) HL.out) rfl (.tmp 28) (.const (.bool false)) 4 rfl 15 (.bool false) rfl rfl szBool (show 15 < 20 by decide) rfl ?_; intro w5 hz; replace hz : Sts W (blkP q (.cells (({ s with code := 17, susp := false, mreq := false }).rcs vd wv) 38 (0, 0)) :: ownW zh wv s.wanted :: l) w5 := hz; have H2 := hid hz; clear hz) | (refine wpList_cell H2.out (stabC (ownW_stable _ _ _) HL.out) rfl (.tmp 31) (.const (.slice none 0 0)) 36 rfl 18 (.slice none 0 0) rfl rfl szRng (show 18 < 20 by decide) rfl ?_; intro w6 hz; replace hz : Sts W (blkP q (.cells (({ s with code := 17, susp := false, mreq := false }).rcs vd (.slice none 0 0)) 38 (0, 0)) :: ownW zh wv s.wanted :: l) w6 := hz; have H3 := hid hz; clear hz) | (refine wpList_cell H3.out (stabC (ownW_stable _ _ _) HL.out) rfl (.tmp 34) (.const (.int .i64 7)) 3 rfl 8 (.int .i64 7) rfl rfl szInt (show 8 < 20 by decide) rfl ?_; intro w7 hz; replace hz : Sts W (blkP q (.cells (({ s with code := 17, susp := false, mreq := false, phase := 6 }).rcs vd (.slice none 0 0)) 38 (0, 0)) :: ownW zh wv s.wanted :: l) w7 := hz; (try clear r2); have hC := Sts.refC hz; have r2 := hC.k2; clear hC; (try dsimp only at r2); have H4 := hid hz; clear hz))
  go_ret
  exact ⟨rfl, Sts.shutRef (s := { s with code := 17, mreq := false, wanted := [], susp := false, phase := 6 }) (wv := .slice none 0 0) ((Sts.rowNilK 81 2 H4.out.swap.tail).weaken (B := ownW zh (.slice none 0 0) []) (fun F h => Or.inr h)).swap⟩
end
theorem cRCancel {W w : World} {l : List HProp} (hl : ∀ B ∈ l, Stable B) (zh : Value × List Rng.R) (q : Nat) (s : Fil.Src) (vd : Value) (hs : Sts W (refP zh q s vd :: l) w) (hph : 0 ≤ s.phase) : Calls Try.prog 75 #[.pointer (some ⟨q, 0, none⟩)] w fun e w' => e = .returned (.int .i64 s.canV.2) ∧ Sts W (refP zh q s.canV.1 vd :: l) w' := by
  have hz0 : (s.phase + 1 == 0) = false := by rw [beq_eq_false_iff_ne]; omega
  unfold Fil.Src.canV
  by_cases c1 : 1 < s.phase
  · rw [if_pos c1]
    exact cRCanA hl zh q s vd hs hz0 (by rw [bne_iff_ne]; omega) (by rw [bne_iff_ne]; omega)
  · rw [if_neg c1]
    have hp : s.phase = 0 ∨ s.phase = 1 := by omega
    by_cases c2 : s.cls = 2
    · rw [if_pos c2]
      rcases hp with hp | hp
      · exact cRCanB0 hl zh q s vd hs hp c2
      · exact cRCanB1 hl zh q s vd hs hp c2
    · rw [if_neg c2]
      rcases hp with hp | hp
      · exact cRCanC0 hl zh q s vd hs hp (by simpa using c2)
      · exact cRCanC1 hl zh q s vd hs hp (by simpa using c2)
end Go.Proofs.Ytfjadhkhmhnccaa
