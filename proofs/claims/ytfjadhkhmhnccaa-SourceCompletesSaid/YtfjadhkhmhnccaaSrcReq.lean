/- The contracts of what the sending end does with what it receives. The contracts of request. -/
import Derived.Test.YtfjadhkhmhnccaaSrcNxt
set_option linter.unusedVariables false
set_option linter.unusedSimpArgs false
namespace Go.Proofs.Ytfjadhkhmhnccaa
open Go.RowKit Go.Proofs.Num
section
variable {W w : World} {l : List HProp} (hl : ∀ B ∈ l, Stable B) (q : Nat) (s : Fil.Src) (hs : Sts W (srcP q s :: l) w)
include hl hs
set_option maxRecDepth 100000 in
theorem cForget : Calls Try.prog 78 #[.pointer (some ⟨q, 0, none⟩)] w fun e w' => e = .returned (.tuple #[]) ∧ Sts W (srcP q { s with mreq := false, wanted := [] } :: l) w' := by
  obtain ⟨dv, wv, h⟩ := Sts.openSrc hs
  have hl4 : ∀ B ∈ rowP 5 1 dv s.data.length (u8s s.data) :: rowP 81 2 wv s.wanted.length (Fil.rcells s.wanted) :: l, Stable B := stabC (rowP_stable _ _ _ _ _) (stabC (rowP_stable _ _ _ _ _) hl)
  have hC := Sts.srcC h
  have k14 := hC.k14
  have fr14 := hC.fr 14
  have st1 := Sts.store hl4 h (j := 14) (.bool false)
  have c1 := Sts.srcC (dv := dv) (wv := wv) (s := { s with mreq := false }) st1
  have b1_15 := c1.k15
  have f1_15 := c1.fr 15
  try dsimp only at b1_15
  have st2 := Sts.store hl4 st1 (j := 15) (.slice none 0 0)
  have h3 := Sts.rowNilK 81 2 (((st2.perm (List.perm_middle (l₁ := [_, _]) (l₂ := l))).tail))
  have HF := hid (Sts.shutSrc (s := { s with mreq := false, wanted := [] }) (dv := dv) (wv := .slice none 0 0) (h3.perm (List.perm_middle (l₁ := [_, _]) (l₂ := l)).symm))
  clear st1 st2 h3 c1 hC h hs
  go_enter Try.func78, Try.ntmps78
  go_wp2_with fail
  go_end0
  exact ⟨rfl, HF.out⟩
set_option maxRecDepth 100000 in
theorem cAck0 (c1 : s.phase = 0) : Calls Try.prog 69 #[.pointer (some ⟨q, 0, none⟩)] w fun e w' => e = .returned (.int .i64 12) ∧ Sts W (srcP q s :: l) w' := by
  obtain ⟨dv, wv, h⟩ := Sts.openSrc hs
  have hl4 : ∀ B ∈ rowP 5 1 dv s.data.length (u8s s.data) :: rowP 81 2 wv s.wanted.length (Fil.rcells s.wanted) :: l, Stable B := stabC (rowP_stable _ _ _ _ _) (stabC (rowP_stable _ _ _ _ _) hl)
  have hC := Sts.srcC h
  have k10 := hC.k10
  have k16 := hC.k16
  have fr16 := hC.fr 16
  rw [c1] at k10
  clear c1
  have HF := hid hs
  clear hC h hs
  go_enter Try.func69, Try.ntmps69
  go_wp2_with fail
  go_ret
  exact ⟨rfl, HF.out⟩
set_option maxRecDepth 100000 in
theorem cAck1 (c1 : s.phase = 1) : Calls Try.prog 69 #[.pointer (some ⟨q, 0, none⟩)] w fun e w' => e = .returned (.int .i64 0) ∧ Sts W (srcP q { s with acked := true } :: l) w' := by
  obtain ⟨dv, wv, h⟩ := Sts.openSrc hs
  have hl4 : ∀ B ∈ rowP 5 1 dv s.data.length (u8s s.data) :: rowP 81 2 wv s.wanted.length (Fil.rcells s.wanted) :: l, Stable B := stabC (rowP_stable _ _ _ _ _) (stabC (rowP_stable _ _ _ _ _) hl)
  have hC := Sts.srcC h
  have k10 := hC.k10
  have k16 := hC.k16
  have fr16 := hC.fr 16
  rw [c1] at k10
  clear c1
  have HF := hid (Sts.shutSrc (s := { s with acked := true }) (dv := dv) (wv := wv) (Sts.store hl4 h (j := 16) (.bool true)))
  clear hC h hs
  go_enter Try.func69, Try.ntmps69
  go_wp2_with fail
  go_ret
  exact ⟨rfl, HF.out⟩
set_option maxRecDepth 100000 in
theorem cAck2 (c1 : (s.phase == 0) = false) (c2 : (s.phase == 1) = false) : Calls Try.prog 69 #[.pointer (some ⟨q, 0, none⟩)] w fun e w' => e = .returned (.int .i64 0) ∧ Sts W (srcP q s :: l) w' := by
  obtain ⟨dv, wv, h⟩ := Sts.openSrc hs
  have hl4 : ∀ B ∈ rowP 5 1 dv s.data.length (u8s s.data) :: rowP 81 2 wv s.wanted.length (Fil.rcells s.wanted) :: l, Stable B := stabC (rowP_stable _ _ _ _ _) (stabC (rowP_stable _ _ _ _ _) hl)
  have hC := Sts.srcC h
  have k10 := hC.k10
  have k16 := hC.k16
  have fr16 := hC.fr 16
  have HF := hid hs
  clear hC h hs
  go_enter Try.func69, Try.ntmps69
  go_wp2_with fail
  go_ret
  exact ⟨rfl, HF.out⟩
set_option maxRecDepth 100000 in
theorem cFin2 (code : Int) (c1 : s.phase = 2) : Calls Try.prog 71 #[.pointer (some ⟨q, 0, none⟩), .int .i64 code] w fun e w' => e = .returned (.tuple #[]) ∧ Sts W (srcP q s :: l) w' := by
  obtain ⟨dv, wv, h⟩ := Sts.openSrc hs
  have hl4 : ∀ B ∈ rowP 5 1 dv s.data.length (u8s s.data) :: rowP 81 2 wv s.wanted.length (Fil.rcells s.wanted) :: l, Stable B := stabC (rowP_stable _ _ _ _ _) (stabC (rowP_stable _ _ _ _ _) hl)
  have hC := Sts.srcC h
  have k10 := hC.k10
  rw [c1] at k10
  have HF := hid hs
  clear c1 hC h hs
  go_enter Try.func71, Try.ntmps71
  go_wp2_with fail
  (try simp only [Exit.inBlock, Exit.then])
  refine bodyPost_ret (results_none rfl _ _ _) rfl ?_
  exact ⟨rfl, HF.out⟩
set_option maxRecDepth 100000 in
theorem cFin3 (code : Int) (c0 : (s.phase == 0) = false) (c1 : (s.phase == 1) = false) (c2 : (s.phase == 2) = false) : Calls Try.prog 71 #[.pointer (some ⟨q, 0, none⟩), .int .i64 code] w fun e w' => e = .returned (.tuple #[]) ∧ Sts W (srcP q { s with due := true } :: l) w' := by
  obtain ⟨dv, wv, h⟩ := Sts.openSrc hs
  have hl4 : ∀ B ∈ rowP 5 1 dv s.data.length (u8s s.data) :: rowP 81 2 wv s.wanted.length (Fil.rcells s.wanted) :: l, Stable B := stabC (rowP_stable _ _ _ _ _) (stabC (rowP_stable _ _ _ _ _) hl)
  have hC := Sts.srcC h
  have k10 := hC.k10
  have k19 := hC.k19
  have fr19 := hC.fr 19
  have HF := hid (Sts.shutSrc (s := { s with due := true }) (dv := dv) (wv := wv) (Sts.store hl4 h (j := 19) (.bool true)))
  clear hC h hs
  go_enter Try.func71, Try.ntmps71
  go_wp2_with fail
  go_end0
  exact ⟨rfl, HF.out⟩
set_option maxRecDepth 100000 in
theorem cFinA (code : Int) (c1 : s.phase = 0) : Calls Try.prog 71 #[.pointer (some ⟨q, 0, none⟩), .int .i64 code] w fun e w' => e = .returned (.tuple #[]) ∧ Sts W (srcP q { s with phase := 2, code := code, mreq := false, wanted := [], due := true } :: l) w' := by
  obtain ⟨dv, wv, h⟩ := Sts.openSrc hs
  have hl4 : ∀ B ∈ rowP 5 1 dv s.data.length (u8s s.data) :: rowP 81 2 wv s.wanted.length (Fil.rcells s.wanted) :: l, Stable B := stabC (rowP_stable _ _ _ _ _) (stabC (rowP_stable _ _ _ _ _) hl)
  have hC := Sts.srcC h
  have k10 := hC.k10
  have fr10 := hC.fr 10
  have k10' := k10
  rw [c1] at k10'
  clear k10
  have st1 := Sts.store hl4 h (j := 10) (.int .i64 2)
  have c1 := Sts.srcC (dv := dv) (wv := wv) (s := { s with phase := 2 }) st1
  have b1_20 := c1.k20
  have f1_20 := c1.fr 20
  try dsimp only at b1_20
  have st2 := Sts.store hl4 st1 (j := 20) (.int .i64 code)
  have hs2 := Sts.shutSrc (s := { s with phase := 2, code := code }) (dv := dv) (wv := wv) st2
  have HG := hid (cForget hl q { s with phase := 2, code := code } hs2)
  have HL := hid hl
  clear c1 st1 st2 hs2 hC h hs hl4 hl
  go_enter Try.func71, Try.ntmps71
  go_wp2_with (first | (go_at_call 78; refine HG.out.mono ?_; rintro e w2 ⟨rfl, h2⟩; obtain ⟨dv2, wv2, h3⟩ := Sts.openSrc h2; have hC2 := Sts.srcC h3; have k19 := hC2.k19; have fr19 := hC2.fr 19; have HF := hid (Sts.shutSrc (s := { s with phase := 2, code := code, mreq := false, wanted := [], due := true }) (dv := dv2) (wv := wv2) (Sts.store (stabC (rowP_stable _ _ _ _ _) (stabC (rowP_stable _ _ _ _ _) HL.out)) h3 (j := 19) (.bool true))); clear hC2 h3 h2 HG))
  go_end0
  exact ⟨rfl, HF.out⟩
set_option maxRecDepth 100000 in
theorem cFinB (code : Int) (c1 : s.phase = 1) : Calls Try.prog 71 #[.pointer (some ⟨q, 0, none⟩), .int .i64 code] w fun e w' => e = .returned (.tuple #[]) ∧ Sts W (srcP q { s with phase := 2, code := code, mreq := false, wanted := [], due := true } :: l) w' := by
  obtain ⟨dv, wv, h⟩ := Sts.openSrc hs
  have hl4 : ∀ B ∈ rowP 5 1 dv s.data.length (u8s s.data) :: rowP 81 2 wv s.wanted.length (Fil.rcells s.wanted) :: l, Stable B := stabC (rowP_stable _ _ _ _ _) (stabC (rowP_stable _ _ _ _ _) hl)
  have hC := Sts.srcC h
  have k10 := hC.k10
  have fr10 := hC.fr 10
  have k10' := k10
  rw [c1] at k10'
  clear k10
  have st1 := Sts.store hl4 h (j := 10) (.int .i64 2)
  have c1 := Sts.srcC (dv := dv) (wv := wv) (s := { s with phase := 2 }) st1
  have b1_20 := c1.k20
  have f1_20 := c1.fr 20
  try dsimp only at b1_20
  have st2 := Sts.store hl4 st1 (j := 20) (.int .i64 code)
  have hs2 := Sts.shutSrc (s := { s with phase := 2, code := code }) (dv := dv) (wv := wv) st2
  have HG := hid (cForget hl q { s with phase := 2, code := code } hs2)
  have HL := hid hl
  clear c1 st1 st2 hs2 hC h hs hl4 hl
  go_enter Try.func71, Try.ntmps71
  go_wp2_with (first | (go_at_call 78; refine HG.out.mono ?_; rintro e w2 ⟨rfl, h2⟩; obtain ⟨dv2, wv2, h3⟩ := Sts.openSrc h2; have hC2 := Sts.srcC h3; have k19 := hC2.k19; have fr19 := hC2.fr 19; have HF := hid (Sts.shutSrc (s := { s with phase := 2, code := code, mreq := false, wanted := [], due := true }) (dv := dv2) (wv := wv2) (Sts.store (stabC (rowP_stable _ _ _ _ _) (stabC (rowP_stable _ _ _ _ _) HL.out)) h3 (j := 19) (.bool true))); clear hC2 h3 h2 HG))
  go_end0
  exact ⟨rfl, HF.out⟩
end
end Go.Proofs.Ytfjadhkhmhnccaa
namespace Fil
def Src.req1 (s : Src) (g : Rng.R) : Src := if g = (0, 0) then { s with mreq := true } else { s with wanted := Rng.ofV (s.wanted ++ [g]) }
def Src.reqGo (s : Src) (l : List Rng.R) : Src := l.foldl req1 s
theorem Src.reqGo_snoc (s : Src) (l : List Rng.R) (g : Rng.R) : s.reqGo (l ++ [g]) = (s.reqGo l).req1 g := by simp [Src.reqGo]
theorem Src.req1_len (s : Src) (g : Rng.R) : (s.req1 g).wanted.length ≤ s.wanted.length + 1 := by
  unfold Src.req1
  split
  · exact Nat.le_succ _
  · have := Rng.ofV_len (s.wanted ++ [g])
    simpa using this
theorem Src.reqGo_len (l : List Rng.R) : ∀ s : Src, (s.reqGo l).wanted.length ≤ s.wanted.length + l.length := by
  induction l with
  | nil => intro s; exact Nat.le_refl _
  | cons g l ih => intro s; have h1 := ih (s.req1 g); have h2 := s.req1_len g; simp only [Src.reqGo, List.foldl_cons, List.length_cons] at *; omega
end Fil
namespace Go.Proofs.Ytfjadhkhmhnccaa
open Go.RowKit Go.Proofs.Num
section
variable {W w : World} {l : List HProp} (hl : ∀ B ∈ l, Stable B) (q : Nat) (s : Fil.Src) (hs : Sts W (srcP q s :: l) w) (gaps : List Rng.R) (v : Value) (hg : ∀ A y, Sts W (A :: l) y → RdR y v gaps) (hgl : gaps.length < 1000)
include hl hs hg hgl
set_option maxRecDepth 100000 in
set_option maxHeartbeats 2000000 in
theorem cReqBad (hbad : ∃ r ∈ gaps, (s.data.length : Int) < r.2) : Calls Try.prog 70 #[.pointer (some ⟨q, 0, none⟩), v] w fun e w' => e = .returned (.int .i64 4) ∧ Sts W (srcP q s :: l) w' := by
  obtain ⟨ga, gc, hve⟩ := (hg _ _ hs).eq
  subst hve
  have HG := hid hg
  have HS := hid hs
  have HL := hid hl
  have HLS := hid (stabC (srcP_stable q s) hl)
  have HBAD := hid hbad
  clear hg hs hl hbad
  go_enter Try.func70, Try.ntmps70
  go_wp2_with fail
  go_loopw [11] (fun i wr => ∃ k : Nat, k ≤ gaps.length ∧ i = .int .i64 k ∧ (∀ r ∈ gaps.take k, r.2 ≤ (s.data.length : Int)) ∧ Sts W (srcP q s :: l) wr) (fun i _ => gaps.length - (intOf i).toNat)
  case atStart => exact ⟨0, by omega, rfl, by simp, HS.out⟩
  case round =>
    obtain ⟨k, hk, rfl, hpre, hS⟩ := hrel
    have HP := hid hpre
    have HS1 := hid hS
    clear hpre HS
    by_cases hlt : k < gaps.length
    · obtain ⟨a', c', e', -, hx⟩ := HG.out _ _ hS
      injection e' with e1 e2 e3
      subst e1
      clear e2 e3
      obtain ⟨b, off, hgb, hb, c0, c1⟩ := hx k hlt
      subst hgb
      clear hx
      obtain ⟨dv, wv, h⟩ := Sts.openSrc hS
      obtain ⟨da, dc, hde⟩ := (Rd.of_own (Sts.rowOwn (h.swap)) (u8s_len _)).eq
      rw [u8s_len] at hde
      subst hde
      have HT : Hid (gaps.take (k + 1) = gaps.take k ++ [gaps[k]]) := hid (by rw [List.take_add_one, List.getElem?_eq_getElem hlt]; rfl)
      generalize gaps[k] = x at *
      obtain ⟨f, t⟩ := x
      simp only [] at c0 c1
      have hl3 : ∀ B ∈ blkP q (.cells (s.cells (.slice da s.data.length dc) wv) 64 (0, 0)) :: rowP 5 1 (.slice da s.data.length dc) s.data.length (u8s s.data) :: rowP 81 2 wv s.wanted.length (Fil.rcells s.wanted) :: l, Stable B := stabC (blkP_stable _ _) (stabC (rowP_stable _ _ _ _ _) (stabC (rowP_stable _ _ _ _ _) HL.out))
      have h3 := h.alloc hl3 (.cells #[.int .i64 f, .int .i64 t] 81)
      have k5 := (Sts.srcC h3.tail).k5
      have HQ : Hid (∀ n, Sts W (srcP q s :: l) ((wr.alloc (.cells #[.int .i64 f, .int .i64 t] 81)).drewN n)) := hid fun n => (Sts.box HLS.out hS (.cells #[.int .i64 f, .int .i64 t] 81)).quiet HLS.out (below_drewN (Below.refl _ _) n)
      clear h h3 hl3 hS
      cases hd : decide (t > (s.data.length : Int)) with
      | true =>
        go_wp2_with fail
        go_quiet (fail)
        go_wp2_with fail
        go_ret
        exact ⟨rfl, HQ.out _⟩
      | false =>
        go_wp2_with fail
        go_quiet (fail)
        go_wp2_with fail
        go_roundw
        case rel =>
          refine ⟨k + 1, by omega, by go_num, ?_, HQ.out _⟩
          intro r hr
          rw [HT.out, List.mem_append] at hr
          rcases hr with hr | hr
          · exact HP.out r hr
          · simp at hr; subst hr; simpa using hd
        case measure => simp [intOf]; omega
    · obtain rfl : k = gaps.length := by omega
      have hpre := HP.out
      rw [List.take_length] at hpre
      obtain ⟨r, hr, hrr⟩ := HBAD.out
      have := hpre r hr
      omega
set_option maxRecDepth 100000 in
set_option maxHeartbeats 2000000 in
theorem cReqIdle (hok : ∀ r ∈ gaps, r.2 ≤ (s.data.length : Int)) (p0 : (s.phase != 0) = true) (p1 : (s.phase != 1) = true) : Calls Try.prog 70 #[.pointer (some ⟨q, 0, none⟩), v] w fun e w' => e = .returned (.int .i64 0) ∧ Sts W (srcP q s :: l) w' := by
  obtain ⟨ga, gc, hve⟩ := (hg _ _ hs).eq
  subst hve
  have HG := hid hg
  have HS := hid hs
  have HL := hid hl
  have HLS := hid (stabC (srcP_stable q s) hl)
  have HOK := hid hok
  clear hg hs hl hok
  go_enter Try.func70, Try.ntmps70
  go_wp2_with fail
  go_loopw [11] (fun i wr => ∃ k : Nat, k ≤ gaps.length ∧ i = .int .i64 k ∧ (∀ r ∈ gaps.take k, r.2 ≤ (s.data.length : Int)) ∧ Sts W (srcP q s :: l) wr) (fun i _ => gaps.length - (intOf i).toNat)
  case atStart => exact ⟨0, by omega, rfl, by simp, HS.out⟩
  case round =>
    obtain ⟨k, hk, rfl, hpre, hS⟩ := hrel
    have HP := hid hpre
    have HS1 := hid hS
    clear hpre HS
    by_cases hlt : k < gaps.length
    · obtain ⟨a', c', e', -, hx⟩ := HG.out _ _ hS
      injection e' with e1 e2 e3
      subst e1
      clear e2 e3
      obtain ⟨b, off, hgb, hb, c0, c1⟩ := hx k hlt
      subst hgb
      clear hx
      obtain ⟨dv, wv, h⟩ := Sts.openSrc hS
      obtain ⟨da, dc, hde⟩ := (Rd.of_own (Sts.rowOwn (h.swap)) (u8s_len _)).eq
      rw [u8s_len] at hde
      subst hde
      have HT : Hid (gaps.take (k + 1) = gaps.take k ++ [gaps[k]]) := hid (by rw [List.take_add_one, List.getElem?_eq_getElem hlt]; rfl)
      have hxk := HOK.out _ (List.getElem_mem hlt)
      generalize gaps[k] = x at *
      obtain ⟨f, t⟩ := x
      simp only [] at c0 c1
      have hl3 : ∀ B ∈ blkP q (.cells (s.cells (.slice da s.data.length dc) wv) 64 (0, 0)) :: rowP 5 1 (.slice da s.data.length dc) s.data.length (u8s s.data) :: rowP 81 2 wv s.wanted.length (Fil.rcells s.wanted) :: l, Stable B := stabC (blkP_stable _ _) (stabC (rowP_stable _ _ _ _ _) (stabC (rowP_stable _ _ _ _ _) HL.out))
      have h3 := h.alloc hl3 (.cells #[.int .i64 f, .int .i64 t] 81)
      have k5 := (Sts.srcC h3.tail).k5
      have HQ : Hid (∀ n, Sts W (srcP q s :: l) ((wr.alloc (.cells #[.int .i64 f, .int .i64 t] 81)).drewN n)) := hid fun n => (Sts.box HLS.out hS (.cells #[.int .i64 f, .int .i64 t] 81)).quiet HLS.out (below_drewN (Below.refl _ _) n)
      clear h h3 hl3 hS
      have hd : decide (t > (s.data.length : Int)) = false := decide_eq_false (by simp only [] at hxk; omega)
      clear hxk
      go_wp2_with fail
      go_quiet (fail)
      go_wp2_with fail
      go_roundw
      case rel =>
        refine ⟨k + 1, by omega, by go_num, ?_, HQ.out _⟩
        intro r hr
        rw [HT.out, List.mem_append] at hr
        rcases hr with hr | hr
        · exact HP.out r hr
        · simp at hr; subst hr; simpa using hd
      case measure => simp [intOf]; omega
    · obtain rfl : k = gaps.length := by omega
      have hpre := HP.out
      rw [List.take_length] at hpre
      obtain ⟨dv, wv, h⟩ := Sts.openSrc hS
      have k10 := (Sts.srcC h).k10
      clear h hpre
      clear hS
      go_wp2_with fail
      go_ret
      exact ⟨rfl, HS1.out⟩
set_option maxRecDepth 100000 in
set_option maxHeartbeats 2000000 in
theorem cReqGo0 (hok : ∀ r ∈ gaps, r.2 ≤ (s.data.length : Int)) (p0 : s.phase = 0) (hwl : s.wanted.length < 400000) : Calls Try.prog 70 #[.pointer (some ⟨q, 0, none⟩), v] w fun e w' => e = .returned (.int .i64 0) ∧ Sts W (srcP q { s.reqGo gaps with timer := (s.reqGo gaps).now, tries := 0 } :: l) w' := by
  obtain ⟨ga, gc, hve⟩ := (hg _ _ hs).eq
  subst hve
  have HG := hid hg
  have HS := hid hs
  have HL := hid hl
  have HLS := hid (stabC (srcP_stable q s) hl)
  have HOK := hid hok
  clear hg hs hl hok
  go_enter Try.func70, Try.ntmps70
  go_wp2_with fail
  go_loopw [11] (fun i wr => ∃ k : Nat, k ≤ gaps.length ∧ i = .int .i64 k ∧ (∀ r ∈ gaps.take k, r.2 ≤ (s.data.length : Int)) ∧ Sts W (srcP q s :: l) wr) (fun i _ => gaps.length - (intOf i).toNat)
  case atStart => exact ⟨0, by omega, rfl, by simp, HS.out⟩
  case round =>
    obtain ⟨k, hk, rfl, hpre, hS⟩ := hrel
    have HP := hid hpre
    have HS1 := hid hS
    clear hpre HS
    by_cases hlt : k < gaps.length
    · obtain ⟨a', c', e', -, hx⟩ := HG.out _ _ hS
      injection e' with e1 e2 e3
      subst e1
      clear e2 e3
      obtain ⟨b, off, hgb, hb, c0, c1⟩ := hx k hlt
      subst hgb
      clear hx
      obtain ⟨dv, wv, h⟩ := Sts.openSrc hS
      obtain ⟨da, dc, hde⟩ := (Rd.of_own (Sts.rowOwn (h.swap)) (u8s_len _)).eq
      rw [u8s_len] at hde
      subst hde
      have HT : Hid (gaps.take (k + 1) = gaps.take k ++ [gaps[k]]) := hid (by rw [List.take_add_one, List.getElem?_eq_getElem hlt]; rfl)
      have hxk := HOK.out _ (List.getElem_mem hlt)
      generalize gaps[k] = x at *
      obtain ⟨f, t⟩ := x
      simp only [] at c0 c1
      have hl3 : ∀ B ∈ blkP q (.cells (s.cells (.slice da s.data.length dc) wv) 64 (0, 0)) :: rowP 5 1 (.slice da s.data.length dc) s.data.length (u8s s.data) :: rowP 81 2 wv s.wanted.length (Fil.rcells s.wanted) :: l, Stable B := stabC (blkP_stable _ _) (stabC (rowP_stable _ _ _ _ _) (stabC (rowP_stable _ _ _ _ _) HL.out))
      have h3 := h.alloc hl3 (.cells #[.int .i64 f, .int .i64 t] 81)
      have k5 := (Sts.srcC h3.tail).k5
      have HQ : Hid (∀ n, Sts W (srcP q s :: l) ((wr.alloc (.cells #[.int .i64 f, .int .i64 t] 81)).drewN n)) := hid fun n => (Sts.box HLS.out hS (.cells #[.int .i64 f, .int .i64 t] 81)).quiet HLS.out (below_drewN (Below.refl _ _) n)
      clear h h3 hl3 hS
      have hd : decide (t > (s.data.length : Int)) = false := decide_eq_false (by simp only [] at hxk; omega)
      clear hxk
      go_wp2_with fail
      go_quiet (fail)
      go_wp2_with fail
      go_roundw
      case rel =>
        refine ⟨k + 1, by omega, by go_num, ?_, HQ.out _⟩
        intro r hr
        rw [HT.out, List.mem_append] at hr
        rcases hr with hr | hr
        · exact HP.out r hr
        · simp at hr; subst hr; simpa using hd
      case measure => simp [intOf]; omega
    · obtain rfl : k = gaps.length := by omega
      have hpre := HP.out
      rw [List.take_length] at hpre
      obtain ⟨dv, wv, h⟩ := Sts.openSrc hS
      have k10 := (Sts.srcC h).k10
      clear h hpre
      rw [p0] at k10
      clear hS p0
      go_wp2_with fail
      have HS2 := HS1
      clear HS1 k10
      go_loopw [38] (fun i wr => ∃ k : Nat, k ≤ gaps.length ∧ i = .int .i64 k ∧ Sts W (srcP q (s.reqGo (gaps.take k)) :: l) wr) (fun i _ => gaps.length - (intOf i).toNat)
      case atStart => exact ⟨0, by omega, rfl, HS2.out⟩
      case round =>
        obtain ⟨k, hk, rfl, hS⟩ := hrel
        clear HS2
        have hlen := Fil.Src.reqGo_len (gaps.take k) s
        rw [List.length_take] at hlen
        by_cases hlt : k < gaps.length
        · obtain ⟨a', c', e', -, hx⟩ := HG.out _ _ hS
          injection e' with e1 e2 e3
          subst e1
          clear e2 e3
          obtain ⟨b, off, hgb, hb, c0, c1⟩ := hx k hlt
          subst hgb
          clear hx
          have HT : Hid (gaps.take (k + 1) = gaps.take k ++ [gaps[k]]) := hid (by rw [List.take_add_one, List.getElem?_eq_getElem hlt]; rfl)
          generalize gaps[k] = x at *
          obtain ⟨f, t⟩ := x
          simp only [] at c0 c1
          obtain ⟨s2, he2⟩ : ∃ s2, s.reqGo (gaps.take k) = s2 := ⟨_, rfl⟩
          rw [he2] at hS hlen
          have HE2 := hid he2
          clear he2
          have hwl : s2.wanted.length < 900000 := by omega
          clear hlen
          obtain ⟨dv, wv, h⟩ := Sts.openSrc hS
          obtain ⟨wa, wc, hwe⟩ := (RdR.of_own (Sts.rowOwnK h.third) rfl).eq
          subst hwe
          have hl3 : ∀ B ∈ blkP q (.cells (s2.cells dv (.slice wa s2.wanted.length wc)) 64 (0, 0)) :: rowP 5 1 dv s2.data.length (u8s s2.data) :: rowP 81 2 (.slice wa s2.wanted.length wc) s2.wanted.length (Fil.rcells s2.wanted) :: l, Stable B := stabC (blkP_stable _ _) (stabC (rowP_stable _ _ _ _ _) (stabC (rowP_stable _ _ _ _ _) HL.out))
          have h3 := h.alloc hl3 (.cells #[.int .i64 f, .int .i64 t] 81)
          have HB := hid h3
          have HLB := hid (stabC (blkP_stable wr.heap.size (.cells #[.int .i64 f, .int .i64 t] 81 (0, 0))) hl3)
          have hC := Sts.srcC h3.tail
          have k14 := hC.k14
          have fr14 := hC.fr 14
          have hst := Sts.shutSrc (s := { s2 with mreq := true }) (Sts.store (stabC (rowP_stable _ _ _ _ _) (stabC (rowP_stable _ _ _ _ _) HL.out)) h3.tail (j := 14) (.bool true))
          have HST := hid hst
          clear h h3 hC hst hS hl3
          by_cases h0 : f = 0 ∧ t = 0
          · obtain ⟨rfl, rfl⟩ := h0
            go_wp2_with fail
            go_roundw
            case rel =>
              refine ⟨k + 1, by omega, by go_num, ?_⟩
              rw [HT.out, Fil.Src.reqGo_snoc, HE2.out]
              unfold Fil.Src.req1
              rw [if_pos rfl]
              exact HST.out
            case measure => simp [intOf]; omega
          · have hne : ¬ ((f, t) : Rng.R) = (0, 0) := fun h => h0 (by injection h with h1 h2; exact ⟨h1, h2⟩)
            have h0' : (f == 0) = false ∨ (f == 0) = true ∧ (t == 0) = false := by
              by_cases q1 : f = 0
              · right; exact ⟨by simpa using q1, by simp only [beq_eq_false_iff_ne]; intro q2; exact h0 ⟨q1, q2⟩⟩
              · left; simpa using q1
            have HNE := hid hne
            clear h0 hne HST k14 fr14
            rcases h0' with q1 | ⟨q1, q2⟩
            all_goals
              go_wp2_with fail
              refine wp_region_ordS (fun i => i == 9) (.pure 0 (.pure 1 (.pure 2 (.pure 3 (.pure 4 (.pure 5 (.eff 6 (.pure 7 (.pure 8 (.eff 9 .nil)))))))))) (fun y => SrcC y q s2 dv (.slice wa s2.wanted.length wc) ∧ y.cell? ⟨wr.heap.size, 0, none⟩ = some (.int .i64 f) ∧ y.cell? ⟨wr.heap.size, 1, none⟩ = some (.int .i64 t)) (fun y => Sts W (blkP wr.heap.size (.cells #[.int .i64 f, .int .i64 t] 81 (0, 0)) :: blkP q (.cells (s2.cells dv (.slice wa s2.wanted.length wc)) 64 (0, 0)) :: rowP 5 1 dv s2.data.length (u8s s2.data) :: rowP 81 2 (.slice wa s2.wanted.length wc) s2.wanted.length (Fil.rcells s2.wanted) :: l) y) (by kernel_rfl) (by kernel_rfl) (HB.out.drew HLB.out) (fun y hy => ⟨Sts.srcC hy.tail, (Sts.boxCell hy 0 _ rfl).1, (Sts.boxCell hy 1 _ rfl).1⟩) ?_
              iterate 6
                (apply ord_pure (ho := rfl)
                 · go_simp
                 · intro x hx; obtain ⟨hC, q0, q1⟩ := hx; have k15 := hC.k15; clear hC; go_simp; rfl
                 apply ord_norm
                 · go_simp; rfl)
              apply ord_eff (ho := rfl)
              · go_simp
              intro y hy
              have hrow := ((hy.perm (List.perm_middle (l₁ := [_, _, _]) (l₂ := l))))
              refine eff_call (f := 108) (by go_simp) (cAddR y (.slice wa s2.wanted.length wc) s2.wanted f t (RdR.of_own (Sts.rowOwnK hrow) rfl) hwl) ?_
              rintro e w2 ⟨r, rfl, hN⟩
              have hs2 := Sts.newR HLB.out hy hN
              obtain ⟨ra, rc, hre⟩ := hN.rd.eq
              subst hre
              generalize hrn : (Rng.ofV (s2.wanted ++ [(f, t)])).length = rn at *
              refine ⟨_, rfl, (fun y => SrcC y q s2 dv (.slice wa s2.wanted.length wc) ∧ y.cell? ⟨wr.heap.size, 0, none⟩ = some (.int .i64 f) ∧ y.cell? ⟨wr.heap.size, 1, none⟩ = some (.int .i64 t)), (fun y => Sts W (rowP 81 2 (.slice ra rn rc) rn (Fil.rcells (Rng.ofV (s2.wanted ++ [(f, t)]))) :: blkP wr.heap.size (.cells #[.int .i64 f, .int .i64 t] 81 (0, 0)) :: blkP q (.cells (s2.cells dv (.slice wa s2.wanted.length wc)) 64 (0, 0)) :: rowP 5 1 dv s2.data.length (u8s s2.data) :: rowP 81 2 (.slice wa s2.wanted.length wc) s2.wanted.length (Fil.rcells s2.wanted) :: l) y), hs2, (fun z hz => ⟨Sts.srcC hz.tail.tail, (Sts.boxCell hz.tail 0 _ rfl).1, (Sts.boxCell hz.tail 1 _ rfl).1⟩), (fun _ h => h), ?_⟩
              clear hs2 hN hy y hrow
              apply ord_norm
              · go_simp; rfl
              iterate 2
                (apply ord_pure (ho := rfl)
                 · go_simp
                 · intro x hx; obtain ⟨hC, q0, q1⟩ := hx; have k15 := hC.k15; clear hC; go_simp; rfl
                 apply ord_norm
                 · go_simp; rfl)
              apply ord_eff (ho := rfl)
              · go_simp
              intro y hy
              have hC := Sts.srcC hy.tail.tail
              have k15 := hC.k15
              have fr15 := hC.fr 15
              clear hC
              have hp1 := (hy.perm (List.perm_middle (l₁ := [_, _, _, _]) (l₂ := l))).tail
              have hp2 := hp1.perm (List.perm_middle (l₁ := [_, _]) (l₂ := _ :: l))
              have hst := Sts.store (stabC (rowP_stable _ _ _ _ _) (stabC (blkP_stable _ _) (stabC (rowP_stable _ _ _ _ _) HL.out))) hp2 (j := 15) (.slice ra rn rc)
              refine effS_skip (fun _ => True) (fun y => Sts W (blkP q (.cells ((s2.cells dv (.slice wa s2.wanted.length wc)).setIfInBounds 15 (.slice ra rn rc)) 64 (0, 0)) :: rowP 81 2 (.slice ra rn rc) rn (Fil.rcells (Rng.ofV (s2.wanted ++ [(f, t)]))) :: blkP wr.heap.size (.cells #[.int .i64 f, .int .i64 t] 81 (0, 0)) :: rowP 5 1 dv s2.data.length (u8s s2.data) :: l) y) (w := y.setCell ⟨q, 15, none⟩ (.slice ra rn rc)) rfl ?_ hst (fun _ _ => trivial) ?_
              · clear hst hp1 hp2 hy
                go_simp
              clear hst hp1 hp2 hy k15 fr15 y
              apply ord_norm
              · go_simp; rfl
              refine ord_nil fun z hz => ?_
              subst hrn
              have hz2 := (hz.perm (((List.perm_middle (l₁ := [_, _]) (l₂ := l)).cons _)))
              have HZ := hid (Sts.shutSrc (s := { s2 with wanted := (Rng.ofV (s2.wanted ++ [(f, t)])) }) (dv := dv) (wv := .slice ra (Rng.ofV (s2.wanted ++ [(f, t)])).length rc) hz2).swap.tail
              clear hz hz2
              go_wp2_with fail
              go_roundw
              case rel =>
                refine ⟨k + 1, by omega, by go_num, ?_⟩
                rw [HT.out, Fil.Src.reqGo_snoc, HE2.out]
                unfold Fil.Src.req1
                rw [if_neg HNE.out]
                exact HZ.out
              case measure => simp [intOf]; omega
        · obtain rfl : k = gaps.length := by omega
          rw [List.take_length] at hS
          clear hlen
          obtain ⟨s2, he2⟩ : ∃ s2, s.reqGo gaps = s2 := ⟨_, rfl⟩
          rw [he2] at hS
          have HE2 := hid he2
          clear he2
          obtain ⟨dv, wv, h⟩ := Sts.openSrc hS
          have hC := Sts.srcC h
          have k9 := hC.k9
          have k17 := hC.k17
          have fr17 := hC.fr 17
          have hl4 : ∀ B ∈ rowP 5 1 dv s2.data.length (u8s s2.data) :: rowP 81 2 wv s2.wanted.length (Fil.rcells s2.wanted) :: l, Stable B := stabC (rowP_stable _ _ _ _ _) (stabC (rowP_stable _ _ _ _ _) HL.out)
          have st1 := Sts.store hl4 h (j := 17) (.int .i64 s2.now)
          have hB := Sts.srcC (dv := dv) (wv := wv) (s := { s2 with timer := s2.now }) st1
          have b18 := hB.k18
          have f18 := hB.fr 18
          have HF := hid (Sts.shutSrc (s := { s2 with timer := s2.now, tries := 0 }) (dv := dv) (wv := wv) (Sts.store hl4 st1 (j := 18) (.int .i64 0)))
          clear hB st1 hl4 hC h hS
          go_wp2_with fail
          go_ret
          have e := HE2.out
          subst e
          exact ⟨rfl, HF.out⟩
set_option maxRecDepth 100000 in
set_option maxHeartbeats 2000000 in
theorem cReqGo1 (hok : ∀ r ∈ gaps, r.2 ≤ (s.data.length : Int)) (p0 : s.phase = 1) (hwl : s.wanted.length < 400000) : Calls Try.prog 70 #[.pointer (some ⟨q, 0, none⟩), v] w fun e w' => e = .returned (.int .i64 0) ∧ Sts W (srcP q { s.reqGo gaps with timer := (s.reqGo gaps).now, tries := 0 } :: l) w' := by
  obtain ⟨ga, gc, hve⟩ := (hg _ _ hs).eq
  subst hve
  have HG := hid hg
  have HS := hid hs
  have HL := hid hl
  have HLS := hid (stabC (srcP_stable q s) hl)
  have HOK := hid hok
  clear hg hs hl hok
  go_enter Try.func70, Try.ntmps70
  go_wp2_with fail
  go_loopw [11] (fun i wr => ∃ k : Nat, k ≤ gaps.length ∧ i = .int .i64 k ∧ (∀ r ∈ gaps.take k, r.2 ≤ (s.data.length : Int)) ∧ Sts W (srcP q s :: l) wr) (fun i _ => gaps.length - (intOf i).toNat)
  case atStart => exact ⟨0, by omega, rfl, by simp, HS.out⟩
  case round =>
    obtain ⟨k, hk, rfl, hpre, hS⟩ := hrel
    have HP := hid hpre
    have HS1 := hid hS
    clear hpre HS
    by_cases hlt : k < gaps.length
    · obtain ⟨a', c', e', -, hx⟩ := HG.out _ _ hS
      injection e' with e1 e2 e3
      subst e1
      clear e2 e3
      obtain ⟨b, off, hgb, hb, c0, c1⟩ := hx k hlt
      subst hgb
      clear hx
      obtain ⟨dv, wv, h⟩ := Sts.openSrc hS
      obtain ⟨da, dc, hde⟩ := (Rd.of_own (Sts.rowOwn (h.swap)) (u8s_len _)).eq
      rw [u8s_len] at hde
      subst hde
      have HT : Hid (gaps.take (k + 1) = gaps.take k ++ [gaps[k]]) := hid (by rw [List.take_add_one, List.getElem?_eq_getElem hlt]; rfl)
      have hxk := HOK.out _ (List.getElem_mem hlt)
      generalize gaps[k] = x at *
      obtain ⟨f, t⟩ := x
      simp only [] at c0 c1
      have hl3 : ∀ B ∈ blkP q (.cells (s.cells (.slice da s.data.length dc) wv) 64 (0, 0)) :: rowP 5 1 (.slice da s.data.length dc) s.data.length (u8s s.data) :: rowP 81 2 wv s.wanted.length (Fil.rcells s.wanted) :: l, Stable B := stabC (blkP_stable _ _) (stabC (rowP_stable _ _ _ _ _) (stabC (rowP_stable _ _ _ _ _) HL.out))
      have h3 := h.alloc hl3 (.cells #[.int .i64 f, .int .i64 t] 81)
      have k5 := (Sts.srcC h3.tail).k5
      have HQ : Hid (∀ n, Sts W (srcP q s :: l) ((wr.alloc (.cells #[.int .i64 f, .int .i64 t] 81)).drewN n)) := hid fun n => (Sts.box HLS.out hS (.cells #[.int .i64 f, .int .i64 t] 81)).quiet HLS.out (below_drewN (Below.refl _ _) n)
      clear h h3 hl3 hS
      have hd : decide (t > (s.data.length : Int)) = false := decide_eq_false (by simp only [] at hxk; omega)
      clear hxk
      go_wp2_with fail
      go_quiet (fail)
      go_wp2_with fail
      go_roundw
      case rel =>
        refine ⟨k + 1, by omega, by go_num, ?_, HQ.out _⟩
        intro r hr
        rw [HT.out, List.mem_append] at hr
        rcases hr with hr | hr
        · exact HP.out r hr
        · simp at hr; subst hr; simpa using hd
      case measure => simp [intOf]; omega
    · obtain rfl : k = gaps.length := by omega
      have hpre := HP.out
      rw [List.take_length] at hpre
      obtain ⟨dv, wv, h⟩ := Sts.openSrc hS
      have k10 := (Sts.srcC h).k10
      clear h hpre
      rw [p0] at k10
      clear hS p0
      go_wp2_with fail
      have HS2 := HS1
      clear HS1 k10
      go_loopw [38] (fun i wr => ∃ k : Nat, k ≤ gaps.length ∧ i = .int .i64 k ∧ Sts W (srcP q (s.reqGo (gaps.take k)) :: l) wr) (fun i _ => gaps.length - (intOf i).toNat)
      case atStart => exact ⟨0, by omega, rfl, HS2.out⟩
      case round =>
        obtain ⟨k, hk, rfl, hS⟩ := hrel
        clear HS2
        have hlen := Fil.Src.reqGo_len (gaps.take k) s
        rw [List.length_take] at hlen
        by_cases hlt : k < gaps.length
        · obtain ⟨a', c', e', -, hx⟩ := HG.out _ _ hS
          injection e' with e1 e2 e3
          subst e1
          clear e2 e3
          obtain ⟨b, off, hgb, hb, c0, c1⟩ := hx k hlt
          subst hgb
          clear hx
          have HT : Hid (gaps.take (k + 1) = gaps.take k ++ [gaps[k]]) := hid (by rw [List.take_add_one, List.getElem?_eq_getElem hlt]; rfl)
          generalize gaps[k] = x at *
          obtain ⟨f, t⟩ := x
          simp only [] at c0 c1
          obtain ⟨s2, he2⟩ : ∃ s2, s.reqGo (gaps.take k) = s2 := ⟨_, rfl⟩
          rw [he2] at hS hlen
          have HE2 := hid he2
          clear he2
          have hwl : s2.wanted.length < 900000 := by omega
          clear hlen
          obtain ⟨dv, wv, h⟩ := Sts.openSrc hS
          obtain ⟨wa, wc, hwe⟩ := (RdR.of_own (Sts.rowOwnK h.third) rfl).eq
          subst hwe
          have hl3 : ∀ B ∈ blkP q (.cells (s2.cells dv (.slice wa s2.wanted.length wc)) 64 (0, 0)) :: rowP 5 1 dv s2.data.length (u8s s2.data) :: rowP 81 2 (.slice wa s2.wanted.length wc) s2.wanted.length (Fil.rcells s2.wanted) :: l, Stable B := stabC (blkP_stable _ _) (stabC (rowP_stable _ _ _ _ _) (stabC (rowP_stable _ _ _ _ _) HL.out))
          have h3 := h.alloc hl3 (.cells #[.int .i64 f, .int .i64 t] 81)
          have HB := hid h3
          have HLB := hid (stabC (blkP_stable wr.heap.size (.cells #[.int .i64 f, .int .i64 t] 81 (0, 0))) hl3)
          have hC := Sts.srcC h3.tail
          have k14 := hC.k14
          have fr14 := hC.fr 14
          have hst := Sts.shutSrc (s := { s2 with mreq := true }) (Sts.store (stabC (rowP_stable _ _ _ _ _) (stabC (rowP_stable _ _ _ _ _) HL.out)) h3.tail (j := 14) (.bool true))
          have HST := hid hst
          clear h h3 hC hst hS hl3
          by_cases h0 : f = 0 ∧ t = 0
          · obtain ⟨rfl, rfl⟩ := h0
            go_wp2_with fail
            go_roundw
            case rel =>
              refine ⟨k + 1, by omega, by go_num, ?_⟩
              rw [HT.out, Fil.Src.reqGo_snoc, HE2.out]
              unfold Fil.Src.req1
              rw [if_pos rfl]
              exact HST.out
            case measure => simp [intOf]; omega
          · have hne : ¬ ((f, t) : Rng.R) = (0, 0) := fun h => h0 (by injection h with h1 h2; exact ⟨h1, h2⟩)
            have h0' : (f == 0) = false ∨ (f == 0) = true ∧ (t == 0) = false := by
              by_cases q1 : f = 0
              · right; exact ⟨by simpa using q1, by simp only [beq_eq_false_iff_ne]; intro q2; exact h0 ⟨q1, q2⟩⟩
              · left; simpa using q1
            have HNE := hid hne
            clear h0 hne HST k14 fr14
            rcases h0' with q1 | ⟨q1, q2⟩
            all_goals
              go_wp2_with fail
              refine wp_region_ordS (fun i => i == 9) (.pure 0 (.pure 1 (.pure 2 (.pure 3 (.pure 4 (.pure 5 (.eff 6 (.pure 7 (.pure 8 (.eff 9 .nil)))))))))) (fun y => SrcC y q s2 dv (.slice wa s2.wanted.length wc) ∧ y.cell? ⟨wr.heap.size, 0, none⟩ = some (.int .i64 f) ∧ y.cell? ⟨wr.heap.size, 1, none⟩ = some (.int .i64 t)) (fun y => Sts W (blkP wr.heap.size (.cells #[.int .i64 f, .int .i64 t] 81 (0, 0)) :: blkP q (.cells (s2.cells dv (.slice wa s2.wanted.length wc)) 64 (0, 0)) :: rowP 5 1 dv s2.data.length (u8s s2.data) :: rowP 81 2 (.slice wa s2.wanted.length wc) s2.wanted.length (Fil.rcells s2.wanted) :: l) y) (by kernel_rfl) (by kernel_rfl) (HB.out.drew HLB.out) (fun y hy => ⟨Sts.srcC hy.tail, (Sts.boxCell hy 0 _ rfl).1, (Sts.boxCell hy 1 _ rfl).1⟩) ?_
              iterate 6
                (apply ord_pure (ho := rfl)
                 · go_simp
                 · intro x hx; obtain ⟨hC, q0, q1⟩ := hx; have k15 := hC.k15; clear hC; go_simp; rfl
                 apply ord_norm
                 · go_simp; rfl)
              apply ord_eff (ho := rfl)
              · go_simp
              intro y hy
              have hrow := ((hy.perm (List.perm_middle (l₁ := [_, _, _]) (l₂ := l))))
              refine eff_call (f := 108) (by go_simp) (cAddR y (.slice wa s2.wanted.length wc) s2.wanted f t (RdR.of_own (Sts.rowOwnK hrow) rfl) hwl) ?_
              rintro e w2 ⟨r, rfl, hN⟩
              have hs2 := Sts.newR HLB.out hy hN
              obtain ⟨ra, rc, hre⟩ := hN.rd.eq
              subst hre
              generalize hrn : (Rng.ofV (s2.wanted ++ [(f, t)])).length = rn at *
              refine ⟨_, rfl, (fun y => SrcC y q s2 dv (.slice wa s2.wanted.length wc) ∧ y.cell? ⟨wr.heap.size, 0, none⟩ = some (.int .i64 f) ∧ y.cell? ⟨wr.heap.size, 1, none⟩ = some (.int .i64 t)), (fun y => Sts W (rowP 81 2 (.slice ra rn rc) rn (Fil.rcells (Rng.ofV (s2.wanted ++ [(f, t)]))) :: blkP wr.heap.size (.cells #[.int .i64 f, .int .i64 t] 81 (0, 0)) :: blkP q (.cells (s2.cells dv (.slice wa s2.wanted.length wc)) 64 (0, 0)) :: rowP 5 1 dv s2.data.length (u8s s2.data) :: rowP 81 2 (.slice wa s2.wanted.length wc) s2.wanted.length (Fil.rcells s2.wanted) :: l) y), hs2, (fun z hz => ⟨Sts.srcC hz.tail.tail, (Sts.boxCell hz.tail 0 _ rfl).1, (Sts.boxCell hz.tail 1 _ rfl).1⟩), (fun _ h => h), ?_⟩
              clear hs2 hN hy y hrow
              apply ord_norm
              · go_simp; rfl
              iterate 2
                (apply ord_pure (ho := rfl)
                 · go_simp
                 · intro x hx; obtain ⟨hC, q0, q1⟩ := hx; have k15 := hC.k15; clear hC; go_simp; rfl
                 apply ord_norm
                 · go_simp; rfl)
              apply ord_eff (ho := rfl)
              · go_simp
              intro y hy
              have hC := Sts.srcC hy.tail.tail
              have k15 := hC.k15
              have fr15 := hC.fr 15
              clear hC
              have hp1 := (hy.perm (List.perm_middle (l₁ := [_, _, _, _]) (l₂ := l))).tail
              have hp2 := hp1.perm (List.perm_middle (l₁ := [_, _]) (l₂ := _ :: l))
              have hst := Sts.store (stabC (rowP_stable _ _ _ _ _) (stabC (blkP_stable _ _) (stabC (rowP_stable _ _ _ _ _) HL.out))) hp2 (j := 15) (.slice ra rn rc)
              refine effS_skip (fun _ => True) (fun y => Sts W (blkP q (.cells ((s2.cells dv (.slice wa s2.wanted.length wc)).setIfInBounds 15 (.slice ra rn rc)) 64 (0, 0)) :: rowP 81 2 (.slice ra rn rc) rn (Fil.rcells (Rng.ofV (s2.wanted ++ [(f, t)]))) :: blkP wr.heap.size (.cells #[.int .i64 f, .int .i64 t] 81 (0, 0)) :: rowP 5 1 dv s2.data.length (u8s s2.data) :: l) y) (w := y.setCell ⟨q, 15, none⟩ (.slice ra rn rc)) rfl ?_ hst (fun _ _ => trivial) ?_
              · clear hst hp1 hp2 hy
                go_simp
              clear hst hp1 hp2 hy k15 fr15 y
              apply ord_norm
              · go_simp; rfl
              refine ord_nil fun z hz => ?_
              subst hrn
              have hz2 := (hz.perm (((List.perm_middle (l₁ := [_, _]) (l₂ := l)).cons _)))
              have HZ := hid (Sts.shutSrc (s := { s2 with wanted := (Rng.ofV (s2.wanted ++ [(f, t)])) }) (dv := dv) (wv := .slice ra (Rng.ofV (s2.wanted ++ [(f, t)])).length rc) hz2).swap.tail
              clear hz hz2
              go_wp2_with fail
              go_roundw
              case rel =>
                refine ⟨k + 1, by omega, by go_num, ?_⟩
                rw [HT.out, Fil.Src.reqGo_snoc, HE2.out]
                unfold Fil.Src.req1
                rw [if_neg HNE.out]
                exact HZ.out
              case measure => simp [intOf]; omega
        · obtain rfl : k = gaps.length := by omega
          rw [List.take_length] at hS
          clear hlen
          obtain ⟨s2, he2⟩ : ∃ s2, s.reqGo gaps = s2 := ⟨_, rfl⟩
          rw [he2] at hS
          have HE2 := hid he2
          clear he2
          obtain ⟨dv, wv, h⟩ := Sts.openSrc hS
          have hC := Sts.srcC h
          have k9 := hC.k9
          have k17 := hC.k17
          have fr17 := hC.fr 17
          have hl4 : ∀ B ∈ rowP 5 1 dv s2.data.length (u8s s2.data) :: rowP 81 2 wv s2.wanted.length (Fil.rcells s2.wanted) :: l, Stable B := stabC (rowP_stable _ _ _ _ _) (stabC (rowP_stable _ _ _ _ _) HL.out)
          have st1 := Sts.store hl4 h (j := 17) (.int .i64 s2.now)
          have hB := Sts.srcC (dv := dv) (wv := wv) (s := { s2 with timer := s2.now }) st1
          have b18 := hB.k18
          have f18 := hB.fr 18
          have HF := hid (Sts.shutSrc (s := { s2 with timer := s2.now, tries := 0 }) (dv := dv) (wv := wv) (Sts.store hl4 st1 (j := 18) (.int .i64 0)))
          clear hB st1 hl4 hC h hS
          go_wp2_with fail
          go_ret
          have e := HE2.out
          subst e
          exact ⟨rfl, HF.out⟩
end
end Go.Proofs.Ytfjadhkhmhnccaa
