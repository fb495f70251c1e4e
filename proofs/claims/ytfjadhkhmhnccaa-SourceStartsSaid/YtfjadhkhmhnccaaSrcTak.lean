/- The contracts of what the sending end does with what it receives. -/
import Derived.Test.YtfjadhkhmhnccaaSrcNxt
set_option linter.unusedVariables false
set_option linter.unusedSimpArgs false
namespace Go.Proofs.Ytfjadhkhmhnccaa
open Go.RowKit Go.Proofs.Num
section
variable {W w : World} {l : List HProp} (hl : ∀ B ∈ l, Stable B) (q : Nat) (s : Fil.Src) (hs : Sts W (srcP q s :: l) w)
include hl hs
set_option maxRecDepth 100000 in
theorem cForget : Calls Try.prog 78 #[.pointer (some ⟨q, 0, none⟩)] w fun e w' => e = .returned (.tuple #[]) ∧ Sts W (srcP q { s with meta' := false, wanted := [] } :: l) w' := by
  obtain ⟨dv, wv, h⟩ := Sts.openSrc hs
  have hl4 : ∀ B ∈ rowP 5 1 dv s.data.length (u8s s.data) :: rowP 81 2 wv s.wanted.length (Fil.rcells s.wanted) :: l, Stable B := stabC (rowP_stable _ _ _ _ _) (stabC (rowP_stable _ _ _ _ _) hl)
  have hC := Sts.srcC h
  have k14 := hC.k14
  have fr14 := hC.fr 14
  have st1 := Sts.store hl4 h (j := 14) (.bool false)
  have c1 := Sts.srcC (dv := dv) (wv := wv) (s := { s with meta' := false }) st1
  have b1_15 := c1.k15
  have f1_15 := c1.fr 15
  try dsimp only at b1_15
  have st2 := Sts.store hl4 st1 (j := 15) (.slice none 0 0)
  have h3 := Sts.rowNilK 81 2 (((st2.perm (List.perm_middle (l₁ := [_, _]) (l₂ := l))).tail))
  have HF := hid (Sts.shutSrc (s := { s with meta' := false, wanted := [] }) (dv := dv) (wv := .slice none 0 0) (h3.perm (List.perm_middle (l₁ := [_, _]) (l₂ := l)).symm))
  clear st1 st2 h3 c1 hC h hs
  go_enter Try.func78, Try.ntmps78
  go_wp2_with fail
  go_end0
  exact ⟨rfl, HF.out⟩
set_option maxRecDepth 100000 in
theorem cAck0 (c1 : s.phase = 0) : Calls Try.prog 69 #[.pointer (some ⟨q, 0, none⟩)] w fun e w' => e = .returned (.int .i64 12) ∧ Sts W (srcP q s :: l) w' := by
  obtain ⟨dv, wv, h⟩ := Sts.openSrc hs
  have hl4 : ∀ B ∈ rowP 5 1 dv s.data.length (u8s s.data) :: rowP 81 2 wv s.wanted.length (Fil.rcells s.wanted) :: l, Stable B := stabC (rowP_stable _ _ _ _ _) (stabC (rowP_stable _ _ _ _ _) hl)
  have hC := Sts.srcC h
  have k10 := hC.k10
  have k16 := hC.k16
  have fr16 := hC.fr 16
  rw [c1] at k10
  clear c1
  have HF := hid hs
  clear hC h hs
  go_enter Try.func69, Try.ntmps69
  go_wp2_with fail
  go_ret
  exact ⟨rfl, HF.out⟩
set_option maxRecDepth 100000 in
theorem cAck1 (c1 : s.phase = 1) : Calls Try.prog 69 #[.pointer (some ⟨q, 0, none⟩)] w fun e w' => e = .returned (.int .i64 0) ∧ Sts W (srcP q { s with acked := true } :: l) w' := by
  obtain ⟨dv, wv, h⟩ := Sts.openSrc hs
  have hl4 : ∀ B ∈ rowP 5 1 dv s.data.length (u8s s.data) :: rowP 81 2 wv s.wanted.length (Fil.rcells s.wanted) :: l, Stable B := stabC (rowP_stable _ _ _ _ _) (stabC (rowP_stable _ _ _ _ _) hl)
  have hC := Sts.srcC h
  have k10 := hC.k10
  have k16 := hC.k16
  have fr16 := hC.fr 16
  rw [c1] at k10
  clear c1
  have HF := hid (Sts.shutSrc (s := { s with acked := true }) (dv := dv) (wv := wv) (Sts.store hl4 h (j := 16) (.bool true)))
  clear hC h hs
  go_enter Try.func69, Try.ntmps69
  go_wp2_with fail
  go_ret
  exact ⟨rfl, HF.out⟩
set_option maxRecDepth 100000 in
theorem cAck2 (c1 : (s.phase == 0) = false) (c2 : (s.phase == 1) = false) : Calls Try.prog 69 #[.pointer (some ⟨q, 0, none⟩)] w fun e w' => e = .returned (.int .i64 0) ∧ Sts W (srcP q s :: l) w' := by
  obtain ⟨dv, wv, h⟩ := Sts.openSrc hs
  have hl4 : ∀ B ∈ rowP 5 1 dv s.data.length (u8s s.data) :: rowP 81 2 wv s.wanted.length (Fil.rcells s.wanted) :: l, Stable B := stabC (rowP_stable _ _ _ _ _) (stabC (rowP_stable _ _ _ _ _) hl)
  have hC := Sts.srcC h
  have k10 := hC.k10
  have k16 := hC.k16
  have fr16 := hC.fr 16
  have HF := hid hs
  clear hC h hs
  go_enter Try.func69, Try.ntmps69
  go_wp2_with fail
  go_ret
  exact ⟨rfl, HF.out⟩
set_option maxRecDepth 100000 in
theorem cFin2 (code : Int) (c1 : s.phase = 2) : Calls Try.prog 71 #[.pointer (some ⟨q, 0, none⟩), .int .i64 code] w fun e w' => e = .returned (.tuple #[]) ∧ Sts W (srcP q s :: l) w' := by
  obtain ⟨dv, wv, h⟩ := Sts.openSrc hs
  have hl4 : ∀ B ∈ rowP 5 1 dv s.data.length (u8s s.data) :: rowP 81 2 wv s.wanted.length (Fil.rcells s.wanted) :: l, Stable B := stabC (rowP_stable _ _ _ _ _) (stabC (rowP_stable _ _ _ _ _) hl)
  have hC := Sts.srcC h
  have k10 := hC.k10
  rw [c1] at k10
  have HF := hid hs
  clear c1 hC h hs
  go_enter Try.func71, Try.ntmps71
  go_wp2_with fail
  (try simp only [Exit.inBlock, Exit.then])
  refine bodyPost_ret (results_none rfl _ _ _) rfl ?_
  exact ⟨rfl, HF.out⟩
set_option maxRecDepth 100000 in
theorem cFin3 (code : Int) (c0 : (s.phase == 0) = false) (c1 : (s.phase == 1) = false) (c2 : (s.phase == 2) = false) : Calls Try.prog 71 #[.pointer (some ⟨q, 0, none⟩), .int .i64 code] w fun e w' => e = .returned (.tuple #[]) ∧ Sts W (srcP q { s with due := true } :: l) w' := by
  obtain ⟨dv, wv, h⟩ := Sts.openSrc hs
  have hl4 : ∀ B ∈ rowP 5 1 dv s.data.length (u8s s.data) :: rowP 81 2 wv s.wanted.length (Fil.rcells s.wanted) :: l, Stable B := stabC (rowP_stable _ _ _ _ _) (stabC (rowP_stable _ _ _ _ _) hl)
  have hC := Sts.srcC h
  have k10 := hC.k10
  have k19 := hC.k19
  have fr19 := hC.fr 19
  have HF := hid (Sts.shutSrc (s := { s with due := true }) (dv := dv) (wv := wv) (Sts.store hl4 h (j := 19) (.bool true)))
  clear hC h hs
  go_enter Try.func71, Try.ntmps71
  go_wp2_with fail
  go_end0
  exact ⟨rfl, HF.out⟩
set_option maxRecDepth 100000 in
theorem cFinA (code : Int) (c1 : s.phase = 0) : Calls Try.prog 71 #[.pointer (some ⟨q, 0, none⟩), .int .i64 code] w fun e w' => e = .returned (.tuple #[]) ∧ Sts W (srcP q { s with phase := 2, code := code, meta' := false, wanted := [], due := true } :: l) w' := by
  obtain ⟨dv, wv, h⟩ := Sts.openSrc hs
  have hl4 : ∀ B ∈ rowP 5 1 dv s.data.length (u8s s.data) :: rowP 81 2 wv s.wanted.length (Fil.rcells s.wanted) :: l, Stable B := stabC (rowP_stable _ _ _ _ _) (stabC (rowP_stable _ _ _ _ _) hl)
  have hC := Sts.srcC h
  have k10 := hC.k10
  have fr10 := hC.fr 10
  have k10' := k10
  rw [c1] at k10'
  clear k10
  have st1 := Sts.store hl4 h (j := 10) (.int .i64 2)
  have c1 := Sts.srcC (dv := dv) (wv := wv) (s := { s with phase := 2 }) st1
  have b1_20 := c1.k20
  have f1_20 := c1.fr 20
  try dsimp only at b1_20
  have st2 := Sts.store hl4 st1 (j := 20) (.int .i64 code)
  have hs2 := Sts.shutSrc (s := { s with phase := 2, code := code }) (dv := dv) (wv := wv) st2
  have HG := hid (cForget hl q { s with phase := 2, code := code } hs2)
  have HL := hid hl
  clear c1 st1 st2 hs2 hC h hs hl4 hl
  go_enter Try.func71, Try.ntmps71
  go_wp2_with (first | (go_at_call 78; refine HG.out.mono ?_; rintro e w2 ⟨rfl, h2⟩; obtain ⟨dv2, wv2, h3⟩ := Sts.openSrc h2; have hC2 := Sts.srcC h3; have k19 := hC2.k19; have fr19 := hC2.fr 19; have HF := hid (Sts.shutSrc (s := { s with phase := 2, code := code, meta' := false, wanted := [], due := true }) (dv := dv2) (wv := wv2) (Sts.store (stabC (rowP_stable _ _ _ _ _) (stabC (rowP_stable _ _ _ _ _) HL.out)) h3 (j := 19) (.bool true))); clear hC2 h3 h2 HG))
  go_end0
  exact ⟨rfl, HF.out⟩
set_option maxRecDepth 100000 in
theorem cFinB (code : Int) (c1 : s.phase = 1) : Calls Try.prog 71 #[.pointer (some ⟨q, 0, none⟩), .int .i64 code] w fun e w' => e = .returned (.tuple #[]) ∧ Sts W (srcP q { s with phase := 2, code := code, meta' := false, wanted := [], due := true } :: l) w' := by
  obtain ⟨dv, wv, h⟩ := Sts.openSrc hs
  have hl4 : ∀ B ∈ rowP 5 1 dv s.data.length (u8s s.data) :: rowP 81 2 wv s.wanted.length (Fil.rcells s.wanted) :: l, Stable B := stabC (rowP_stable _ _ _ _ _) (stabC (rowP_stable _ _ _ _ _) hl)
  have hC := Sts.srcC h
  have k10 := hC.k10
  have fr10 := hC.fr 10
  have k10' := k10
  rw [c1] at k10'
  clear k10
  have st1 := Sts.store hl4 h (j := 10) (.int .i64 2)
  have c1 := Sts.srcC (dv := dv) (wv := wv) (s := { s with phase := 2 }) st1
  have b1_20 := c1.k20
  have f1_20 := c1.fr 20
  try dsimp only at b1_20
  have st2 := Sts.store hl4 st1 (j := 20) (.int .i64 code)
  have hs2 := Sts.shutSrc (s := { s with phase := 2, code := code }) (dv := dv) (wv := wv) st2
  have HG := hid (cForget hl q { s with phase := 2, code := code } hs2)
  have HL := hid hl
  clear c1 st1 st2 hs2 hC h hs hl4 hl
  go_enter Try.func71, Try.ntmps71
  go_wp2_with (first | (go_at_call 78; refine HG.out.mono ?_; rintro e w2 ⟨rfl, h2⟩; obtain ⟨dv2, wv2, h3⟩ := Sts.openSrc h2; have hC2 := Sts.srcC h3; have k19 := hC2.k19; have fr19 := hC2.fr 19; have HF := hid (Sts.shutSrc (s := { s with phase := 2, code := code, meta' := false, wanted := [], due := true }) (dv := dv2) (wv := wv2) (Sts.store (stabC (rowP_stable _ _ _ _ _) (stabC (rowP_stable _ _ _ _ _) HL.out)) h3 (j := 19) (.bool true))); clear hC2 h3 h2 HG))
  go_end0
  exact ⟨rfl, HF.out⟩
end
end Go.Proofs.Ytfjadhkhmhnccaa
