/- The specification's sending end in memory; its clock. The specification's Suspend and Resume. The specification's check sum of a file. -/
import Derived.Test.YtfjadhkhmhnccaaSrcOps
import Derived.Test.YtfjadhkhmhnccaaSrcNew
set_option linter.unusedVariables false
set_option linter.unusedSimpArgs false
namespace Fil
open Go
/-- The same sending end in the specification's cells. -/
def Src.rcs (s : Src) (vd wv : Value) : Array Value := #[.int .i64 s.src, .int .i64 s.num, .int .i64 s.cls, .string s.name, vd, .int .i64 s.chunk, .int .i64 s.timeout, .int .i64 s.retries, .int .i64 (s.phase + 1), .int .i64 s.at', .int .i64 s.now, .int .i64 s.timer, .int .i64 s.tries, .bool s.susp, .bool s.started, .bool s.mreq, .bool s.acked, .bool s.due, wv, .int .i64 s.code]
end Fil
namespace Go.Proofs.Ytfjadhkhmhnccaa
open Go.RowKit Go.Proofs.Num
/-- The ranges of the wanted bytes: a row of its own, or one that is shared and only read. -/
def ownW (z : Value × List Rng.R) (wv : Value) (ws : List Rng.R) : HProp := fun w F => ((∀ k, ¬ F k) ∧ wv = z.1 ∧ ws = z.2) ∨ rowP 81 2 wv ws.length (Fil.rcells ws) w F
theorem ownW_stable (z : Value × List Rng.R) (wv : Value) (ws : List Rng.R) : Stable (ownW z wv ws) where
  dom := by
    rintro w F (⟨h, _⟩ | h)
    · exact fun k hk => absurd hk (h k)
    · exact (rowP_stable _ _ _ _ _).dom h
  keep := by
    rintro w w' F S (h | h) hk hS
    · exact Or.inl h
    · exact Or.inr ((rowP_stable _ _ _ _ _).keep h hk hS)
theorem ownW.rd {z : Value × List Rng.R} {wv : Value} {ws : List Rng.R} {w : World} {F : Nat → Prop} (h : ownW z wv ws w F) (hz : RdR w z.1 z.2) : RdR w wv ws := by
  rcases h with ⟨_, rfl, rfl⟩ | h
  · exact hz
  · exact RdR.of_own h.1 rfl
def refP (z : Value × List Rng.R) (bx : Nat) (s : Fil.Src) (vd : Value) : HProp := fun w F => ∃ wv, star (blkP bx (.cells (s.rcs vd wv) 38 (0, 0))) (ownW z wv s.wanted) w F
theorem refP_stable (z : Value × List Rng.R) (bx : Nat) (s : Fil.Src) (vd : Value) : Stable (refP z bx s vd) where
  dom := by rintro w F ⟨wv, h⟩; exact (star_stable (blkP_stable _ _) (ownW_stable _ _ _)).dom h
  keep := by rintro w w' F S ⟨wv, h⟩ hk hS; exact ⟨wv, (star_stable (blkP_stable _ _) (ownW_stable _ _ _)).keep h hk hS⟩
theorem Sts.openRef {W w : World} {l : List HProp} {z : Value × List Rng.R} {bx : Nat} {s : Fil.Src} {vd : Value} (h : Sts W (refP z bx s vd :: l) w) :
    ∃ wv, Sts W (blkP bx (.cells (s.rcs vd wv) 38 (0, 0)) :: ownW z wv s.wanted :: l) w := by
  obtain ⟨F, ⟨F1, F2, ⟨wv, a⟩, b, hd, hF⟩, hb, hn⟩ := h
  refine ⟨wv, ?_⟩
  have h1 : Sts W (star (blkP bx (.cells (s.rcs vd wv) 38 (0, 0))) (ownW z wv s.wanted) :: l) w := ⟨F, ⟨F1, F2, a, b, hd, hF⟩, hb, hn⟩
  exact h1.split
theorem Sts.shutRef {W w : World} {l : List HProp} {z : Value × List Rng.R} {bx : Nat} {s : Fil.Src} {vd wv : Value} (h : Sts W (blkP bx (.cells (s.rcs vd wv) 38 (0, 0)) :: ownW z wv s.wanted :: l) w) : Sts W (refP z bx s vd :: l) w :=
  h.join (fun F h => ⟨wv, h⟩)
section
variable {W w : World} {l : List HProp} (hl : ∀ B ∈ l, Stable B) (zh : Value × List Rng.R) (q : Nat) (s : Fil.Src) (vd : Value) (hs : Sts W (refP zh q s vd :: l) w)
include hl hs
set_option maxRecDepth 100000 in
theorem cClock (now : Int) : Calls Try.prog 109 #[.pointer (some ⟨q, 0, none⟩), .int .i64 now] w fun e w' => e = .returned (.tuple #[]) ∧ Sts W (refP zh q (s.pass now) vd :: l) w' := by
  obtain ⟨wv, h⟩ := Sts.openRef hs
  have hst := Sts.store (stabC (ownW_stable _ _ _) hl) h (j := 10) (.int .i64 now)
  have HO := hid hs
  have HST := hid hst
  have k10 : w.cell? ⟨q, 10, none⟩ = some (.int .i64 s.now) := (Sts.boxCell h 10 _ rfl).1
  have fr : w.frozen? ⟨q, 10, none⟩ = false := by obtain ⟨F, hF⟩ := h.head; exact free_blk hF.1
  clear h hst hs
  have hp : (s.now < now ∧ now ≤ 1099511627776) ∨ ¬ (s.now < now ∧ now ≤ 1099511627776) := Classical.em _
  rcases hp with hp | hp
  · have e : s.pass now = { s with now := now } := by unfold Fil.Src.pass; rw [if_pos hp]
    rw [e]
    have d1 : decide (s.now < now) = true := decide_eq_true hp.1
    have d2 : decide (now ≤ 1099511627776) = true := decide_eq_true hp.2
    clear hp e
    go_enter Try.func109, Try.ntmps109
    go_wp2_with fail
    go_end0
    exact ⟨rfl, Sts.shutRef (s := { s with now := now }) (wv := wv) HST.out⟩
  · have e : s.pass now = s := by unfold Fil.Src.pass; rw [if_neg hp]
    rw [e]
    have d : decide (s.now < now) = false ∨ (decide (s.now < now) = true ∧ decide (now ≤ 1099511627776) = false) := by
      simp only [decide_eq_true_eq, decide_eq_false_iff_not]; omega
    clear hp e
    rcases d with d1 | ⟨d1, d2⟩
    all_goals
      go_enter Try.func109, Try.ntmps109
      go_wp2_with fail
      go_end0
      exact ⟨rfl, HO.out⟩
end
end Go.Proofs.Ytfjadhkhmhnccaa
namespace Go.Proofs.Ytfjadhkhmhnccaa
open Go.RowKit Go.Proofs.Num
section
variable {W w : World} {l : List HProp} (hl : ∀ B ∈ l, Stable B) (zh : Value × List Rng.R) (q : Nat) (s : Fil.Src) (vd : Value) (hs : Sts W (refP zh q s vd :: l) w)
include hl hs
set_option maxRecDepth 100000 in
theorem cRSusA (now : Int) (s1 : Fil.Src) (hp1 : s.pass now = s1) (hz : (s.phase + 1 == 0) = false) (c1 : s1.susp = true) : Calls Try.prog 73 #[.pointer (some ⟨q, 0, none⟩), .int .i64 now] w fun e w' => e = .returned (.int .i64 12) ∧ Sts W (refP zh q s1 vd :: l) w' := by
  obtain ⟨wv0, h0⟩ := Sts.openRef hs
  have k8 : w.cell? ⟨q, 8, none⟩ = some (.int .i64 (s.phase + 1)) := (Sts.boxCell h0 8 _ rfl).1
  have hP := cClock hl zh q s vd hs now
  rw [hp1] at hP
  have HP := hid hP
  have HL := hid hl
  clear hP h0 hs hl hp1
  go_enter Try.func73, Try.ntmps73
  go_wp2_with (first | (go_at_call 109; refine HP.out.mono ?_; rintro e w1 ⟨rfl, h1⟩; have H1 := hid h1; obtain ⟨wv, h2⟩ := Sts.openRef h1; have r8 : w1.cell? ⟨q, 8, none⟩ = some (.int .i64 (s1.phase + 1)) := (Sts.boxCell h2 8 _ rfl).1; have r10 : w1.cell? ⟨q, 10, none⟩ = some (.int .i64 s1.now) := (Sts.boxCell h2 10 _ rfl).1; have r11 : w1.cell? ⟨q, 11, none⟩ = some (.int .i64 s1.timer) := (Sts.boxCell h2 11 _ rfl).1; have r13 : w1.cell? ⟨q, 13, none⟩ = some (.bool s1.susp) := (Sts.boxCell h2 13 _ rfl).1; have f13 : w1.frozen? ⟨q, 13, none⟩ = false := (by obtain ⟨F, hF⟩ := h2.head; exact free_blk hF.1); rw [c1] at r13; have HF := H1; clear h1 h2))
  go_ret
  exact ⟨rfl, HF.out⟩
set_option maxRecDepth 100000 in
theorem cRSusB (now : Int) (s1 : Fil.Src) (hp1 : s.pass now = s1) (hz : (s.phase + 1 == 0) = false) (c1 : s1.susp = false) (c2 : (s1.phase + 1 != 1) = true) (c3 : (s1.phase + 1 != 2) = true) : Calls Try.prog 73 #[.pointer (some ⟨q, 0, none⟩), .int .i64 now] w fun e w' => e = .returned (.int .i64 12) ∧ Sts W (refP zh q s1 vd :: l) w' := by
  obtain ⟨wv0, h0⟩ := Sts.openRef hs
  have k8 : w.cell? ⟨q, 8, none⟩ = some (.int .i64 (s.phase + 1)) := (Sts.boxCell h0 8 _ rfl).1
  have hP := cClock hl zh q s vd hs now
  rw [hp1] at hP
  have HP := hid hP
  have HL := hid hl
  clear hP h0 hs hl hp1
  go_enter Try.func73, Try.ntmps73
  go_wp2_with (first | (go_at_call 109; refine HP.out.mono ?_; rintro e w1 ⟨rfl, h1⟩; have H1 := hid h1; obtain ⟨wv, h2⟩ := Sts.openRef h1; have r8 : w1.cell? ⟨q, 8, none⟩ = some (.int .i64 (s1.phase + 1)) := (Sts.boxCell h2 8 _ rfl).1; have r10 : w1.cell? ⟨q, 10, none⟩ = some (.int .i64 s1.now) := (Sts.boxCell h2 10 _ rfl).1; have r11 : w1.cell? ⟨q, 11, none⟩ = some (.int .i64 s1.timer) := (Sts.boxCell h2 11 _ rfl).1; have r13 : w1.cell? ⟨q, 13, none⟩ = some (.bool s1.susp) := (Sts.boxCell h2 13 _ rfl).1; have f13 : w1.frozen? ⟨q, 13, none⟩ = false := (by obtain ⟨F, hF⟩ := h2.head; exact free_blk hF.1); rw [c1] at r13; have HF := H1; clear h1 h2))
  go_ret
  exact ⟨rfl, HF.out⟩
set_option maxRecDepth 100000 in
theorem cRSusC (now : Int) (s1 : Fil.Src) (hp1 : s.pass now = s1) (hz : (s.phase + 1 == 0) = false) (c1 : s1.susp = false) (c2 : (s1.phase + 1 != 1) = false) : Calls Try.prog 73 #[.pointer (some ⟨q, 0, none⟩), .int .i64 now] w fun e w' => e = .returned (.int .i64 0) ∧ Sts W (refP zh q { s1 with susp := true } vd :: l) w' := by
  obtain ⟨wv0, h0⟩ := Sts.openRef hs
  have k8 : w.cell? ⟨q, 8, none⟩ = some (.int .i64 (s.phase + 1)) := (Sts.boxCell h0 8 _ rfl).1
  have hP := cClock hl zh q s vd hs now
  rw [hp1] at hP
  have HP := hid hP
  have HL := hid hl
  clear hP h0 hs hl hp1
  go_enter Try.func73, Try.ntmps73
  go_wp2_with (first | (go_at_call 109; refine HP.out.mono ?_; rintro e w1 ⟨rfl, h1⟩; have H1 := hid h1; obtain ⟨wv, h2⟩ := Sts.openRef h1; have r8 : w1.cell? ⟨q, 8, none⟩ = some (.int .i64 (s1.phase + 1)) := (Sts.boxCell h2 8 _ rfl).1; have r10 : w1.cell? ⟨q, 10, none⟩ = some (.int .i64 s1.now) := (Sts.boxCell h2 10 _ rfl).1; have r11 : w1.cell? ⟨q, 11, none⟩ = some (.int .i64 s1.timer) := (Sts.boxCell h2 11 _ rfl).1; have r13 : w1.cell? ⟨q, 13, none⟩ = some (.bool s1.susp) := (Sts.boxCell h2 13 _ rfl).1; have f13 : w1.frozen? ⟨q, 13, none⟩ = false := (by obtain ⟨F, hF⟩ := h2.head; exact free_blk hF.1); rw [c1] at r13; have HF := hid (Sts.shutRef (s := { s1 with susp := true }) (wv := wv) (Sts.store (stabC (ownW_stable _ _ _) HL.out) h2 (j := 13) (.bool true))); clear h1 h2))
  go_ret
  exact ⟨rfl, HF.out⟩
set_option maxRecDepth 100000 in
theorem cRSusD (now : Int) (s1 : Fil.Src) (hp1 : s.pass now = s1) (hz : (s.phase + 1 == 0) = false) (c1 : s1.susp = false) (c2 : (s1.phase + 1 != 1) = true) (c3 : (s1.phase + 1 != 2) = false) : Calls Try.prog 73 #[.pointer (some ⟨q, 0, none⟩), .int .i64 now] w fun e w' => e = .returned (.int .i64 0) ∧ Sts W (refP zh q { s1 with susp := true } vd :: l) w' := by
  obtain ⟨wv0, h0⟩ := Sts.openRef hs
  have k8 : w.cell? ⟨q, 8, none⟩ = some (.int .i64 (s.phase + 1)) := (Sts.boxCell h0 8 _ rfl).1
  have hP := cClock hl zh q s vd hs now
  rw [hp1] at hP
  have HP := hid hP
  have HL := hid hl
  clear hP h0 hs hl hp1
  go_enter Try.func73, Try.ntmps73
  go_wp2_with (first | (go_at_call 109; refine HP.out.mono ?_; rintro e w1 ⟨rfl, h1⟩; have H1 := hid h1; obtain ⟨wv, h2⟩ := Sts.openRef h1; have r8 : w1.cell? ⟨q, 8, none⟩ = some (.int .i64 (s1.phase + 1)) := (Sts.boxCell h2 8 _ rfl).1; have r10 : w1.cell? ⟨q, 10, none⟩ = some (.int .i64 s1.now) := (Sts.boxCell h2 10 _ rfl).1; have r11 : w1.cell? ⟨q, 11, none⟩ = some (.int .i64 s1.timer) := (Sts.boxCell h2 11 _ rfl).1; have r13 : w1.cell? ⟨q, 13, none⟩ = some (.bool s1.susp) := (Sts.boxCell h2 13 _ rfl).1; have f13 : w1.frozen? ⟨q, 13, none⟩ = false := (by obtain ⟨F, hF⟩ := h2.head; exact free_blk hF.1); rw [c1] at r13; have HF := hid (Sts.shutRef (s := { s1 with susp := true }) (wv := wv) (Sts.store (stabC (ownW_stable _ _ _) HL.out) h2 (j := 13) (.bool true))); clear h1 h2))
  go_ret
  exact ⟨rfl, HF.out⟩
set_option maxRecDepth 100000 in
theorem cRResA (now : Int) (s1 : Fil.Src) (hp1 : s.pass now = s1) (hz : (s.phase + 1 == 0) = false) (c1 : s1.susp = false) : Calls Try.prog 74 #[.pointer (some ⟨q, 0, none⟩), .int .i64 now] w fun e w' => e = .returned (.int .i64 12) ∧ Sts W (refP zh q s1 vd :: l) w' := by
  obtain ⟨wv0, h0⟩ := Sts.openRef hs
  have k8 : w.cell? ⟨q, 8, none⟩ = some (.int .i64 (s.phase + 1)) := (Sts.boxCell h0 8 _ rfl).1
  have hP := cClock hl zh q s vd hs now
  rw [hp1] at hP
  have HP := hid hP
  have HL := hid hl
  clear hP h0 hs hl hp1
  go_enter Try.func74, Try.ntmps74
  go_wp2_with (first | (go_at_call 109; refine HP.out.mono ?_; rintro e w1 ⟨rfl, h1⟩; have H1 := hid h1; obtain ⟨wv, h2⟩ := Sts.openRef h1; have r8 : w1.cell? ⟨q, 8, none⟩ = some (.int .i64 (s1.phase + 1)) := (Sts.boxCell h2 8 _ rfl).1; have r10 : w1.cell? ⟨q, 10, none⟩ = some (.int .i64 s1.now) := (Sts.boxCell h2 10 _ rfl).1; have r11 : w1.cell? ⟨q, 11, none⟩ = some (.int .i64 s1.timer) := (Sts.boxCell h2 11 _ rfl).1; have r13 : w1.cell? ⟨q, 13, none⟩ = some (.bool s1.susp) := (Sts.boxCell h2 13 _ rfl).1; have f13 : w1.frozen? ⟨q, 13, none⟩ = false := (by obtain ⟨F, hF⟩ := h2.head; exact free_blk hF.1); rw [c1] at r13; have HF := H1; clear h1 h2))
  go_ret
  exact ⟨rfl, HF.out⟩
set_option maxRecDepth 100000 in
theorem cRResB (now : Int) (s1 : Fil.Src) (hp1 : s.pass now = s1) (hz : (s.phase + 1 == 0) = false) (c1 : s1.susp = true) : Calls Try.prog 74 #[.pointer (some ⟨q, 0, none⟩), .int .i64 now] w fun e w' => e = .returned (.int .i64 0) ∧ Sts W (refP zh q { s1 with susp := false, timer := s1.now } vd :: l) w' := by
  obtain ⟨wv0, h0⟩ := Sts.openRef hs
  have k8 : w.cell? ⟨q, 8, none⟩ = some (.int .i64 (s.phase + 1)) := (Sts.boxCell h0 8 _ rfl).1
  have hP := cClock hl zh q s vd hs now
  rw [hp1] at hP
  have HP := hid hP
  have HL := hid hl
  clear hP h0 hs hl hp1
  go_enter Try.func74, Try.ntmps74
  go_wp2_with (first | (go_at_call 109; refine HP.out.mono ?_; rintro e w1 ⟨rfl, h1⟩; have H1 := hid h1; obtain ⟨wv, h2⟩ := Sts.openRef h1; have r8 : w1.cell? ⟨q, 8, none⟩ = some (.int .i64 (s1.phase + 1)) := (Sts.boxCell h2 8 _ rfl).1; have r10 : w1.cell? ⟨q, 10, none⟩ = some (.int .i64 s1.now) := (Sts.boxCell h2 10 _ rfl).1; have r11 : w1.cell? ⟨q, 11, none⟩ = some (.int .i64 s1.timer) := (Sts.boxCell h2 11 _ rfl).1; have r13 : w1.cell? ⟨q, 13, none⟩ = some (.bool s1.susp) := (Sts.boxCell h2 13 _ rfl).1; have f13 : w1.frozen? ⟨q, 13, none⟩ = false := (by obtain ⟨F, hF⟩ := h2.head; exact free_blk hF.1); rw [c1] at r13; have st1 := Sts.store (stabC (ownW_stable _ _ _) HL.out) h2 (j := 13) (.bool false); have b10 : (w1.setCell ⟨q, 13, none⟩ (.bool false)).cell? ⟨q, 10, none⟩ = some (.int .i64 s1.now) := (Sts.boxCell st1 10 _ rfl).1; have b11 : (w1.setCell ⟨q, 13, none⟩ (.bool false)).cell? ⟨q, 11, none⟩ = some (.int .i64 s1.timer) := (Sts.boxCell st1 11 _ rfl).1; have g11 : (w1.setCell ⟨q, 13, none⟩ (.bool false)).frozen? ⟨q, 11, none⟩ = false := (by obtain ⟨F, hF⟩ := st1.head; exact free_blk hF.1); have HF := hid (Sts.shutRef (s := { s1 with susp := false, timer := s1.now }) (wv := wv) (Sts.store (stabC (ownW_stable _ _ _) HL.out) st1 (j := 11) (.int .i64 s1.now))); clear st1; clear h1 h2))
  go_ret
  exact ⟨rfl, HF.out⟩
theorem cRSuspend (hph : 0 ≤ s.phase) (now : Int) : Calls Try.prog 73 #[.pointer (some ⟨q, 0, none⟩), .int .i64 now] w fun e w' => e = .returned (.int .i64 (s.suspV now).2) ∧ Sts W (refP zh q (s.suspV now).1 vd :: l) w' := by
  have hz : (s.phase + 1 == 0) = false := by rw [beq_eq_false_iff_ne]; omega
  have hpp : (s.pass now).phase = s.phase := by unfold Fil.Src.pass; split <;> rfl
  unfold Fil.Src.suspV
  cases c1 : (s.pass now).susp with
  | true =>
    rw [if_pos (Or.inl rfl)]
    exact cRSusA hl zh q s vd hs now _ rfl hz c1
  | false =>
    by_cases c2 : 1 < (s.pass now).phase
    · rw [if_pos (Or.inr c2)]
      exact cRSusB hl zh q s vd hs now _ rfl hz c1 (by show ((s.pass now).phase + 1 != _) = true; simp only [bne_iff_ne, ne_eq]; intro h; have := c2; omega) (by show ((s.pass now).phase + 1 != _) = true; simp only [bne_iff_ne, ne_eq]; intro h; have := c2; omega)
    · rw [if_neg (by rintro (h | h); cases h; exact c2 h)]
      by_cases c3 : (s.pass now).phase = 0
      · exact cRSusC hl zh q s vd hs now _ rfl hz c1 (by rw [c3]; rfl)
      · have c4 : (s.pass now).phase = 1 := by omega
        exact cRSusD hl zh q s vd hs now _ rfl hz c1 (by rw [c4]; rfl) (by rw [c4]; rfl)
theorem cRResume (hph : 0 ≤ s.phase) (now : Int) : Calls Try.prog 74 #[.pointer (some ⟨q, 0, none⟩), .int .i64 now] w fun e w' => e = .returned (.int .i64 (s.resV now).2) ∧ Sts W (refP zh q (s.resV now).1 vd :: l) w' := by
  have hz : (s.phase + 1 == 0) = false := by rw [beq_eq_false_iff_ne]; omega
  unfold Fil.Src.resV
  by_cases c1 : (s.pass now).susp = false
  · rw [if_pos c1]
    exact cRResA hl zh q s vd hs now _ rfl hz c1
  · rw [if_neg c1]
    exact cRResB hl zh q s vd hs now _ rfl hz (by simpa using c1)
end
end Go.Proofs.Ytfjadhkhmhnccaa
namespace Go.Proofs.Ytfjadhkhmhnccaa
open Go.RowKit Go.Proofs.Num
set_option maxRecDepth 100000 in
set_option maxHeartbeats 2000000 in
theorem cRefPiece (w : World) (v : Value) (l : List Nat) (h : RdB w v l) (hn : l.length < 100000000) : Calls Try.prog 88 #[.int .i64 0, v] w fun e w' => e = .returned (.int .u32 (Fil.sumV l : Nat)) ∧ w = w' := by
  obtain ⟨a, cap, rfl, hx⟩ := h.open
  have HX := hid hx
  have HB := hid h.2
  clear h hx
  go_enter Try.func88, Try.ntmps88
  go_wp2_with fail
  go_loop [5, 6] (fun z i => ∃ k : Nat, k ≤ l.length ∧ i = .int .i64 k ∧ z = .int .u32 (Fil.sumGo l k : Nat)) (fun _ i => l.length - (intOf i).toNat)
  case atStart => exact ⟨0, by omega, rfl, rfl⟩
  case round =>
    obtain ⟨k, hk, rfl, rfl⟩ := hrel
    by_cases hlt : k < l.length
    · obtain ⟨bb, off, rfl, hb, c0⟩ := HX.out k hlt
      have hxb := HB.out _ (List.getElem_mem hlt)
      have hst : Fil.sumGo l (k + 1) = (Fil.sumGo l k + l[k] * 2 ^ (8 * (3 - k % 4))) % 4294967296 := by
        show (Fil.sumGo l k + l.getD k 0 * _) % _ = _
        rw [List.getD_eq_getElem?_getD, List.getElem?_eq_getElem hlt]; rfl
      have hacc := Fil.sumGo_lt l k
      have HST := hid hst
      clear hst
      generalize Fil.sumGo l k = acc at *
      generalize l[k] = b at *
      have hr4 : (k % 4 = 0 ∧ (k : Int) % 4 = 0) ∨ (k % 4 = 1 ∧ (k : Int) % 4 = 1) ∨ (k % 4 = 2 ∧ (k : Int) % 4 = 2) ∨ (k % 4 = 3 ∧ (k : Int) % 4 = 3) := by omega
      rcases hr4 with ⟨h1, h2⟩ | ⟨h1, h2⟩ | ⟨h1, h2⟩ | ⟨h1, h2⟩
      · rw [h1, show 2 ^ (8 * (3 - 0)) = 16777216 from rfl] at HST
        clear h1
        go_wp2_with fail
        go_loop [8, 9] (fun v j => (j = .int .i64 0 ∧ v = .int .u32 ((b * 1 : Nat) : Int)) ∨ (j = .int .i64 1 ∧ v = .int .u32 ((b * 256 : Nat) : Int)) ∨ (j = .int .i64 2 ∧ v = .int .u32 ((b * 65536 : Nat) : Int)) ∨ (j = .int .i64 3 ∧ v = .int .u32 ((b * 16777216 : Nat) : Int))) (fun _ j => 3 - (intOf j).toNat)
        case atStart => exact Or.inl ⟨rfl, by simp⟩
        case round =>
          rcases hrel with ⟨rfl, rfl⟩ | ⟨rfl, rfl⟩ | ⟨rfl, rfl⟩ | ⟨rfl, rfl⟩
          · go_wp2_with fail
            go_round
            case rel => exact Or.inr (Or.inl ⟨rfl, val_int (by omega)⟩)
            case measure => simp [intOf]
          · go_wp2_with fail
            go_round
            case rel => exact Or.inr (Or.inr (Or.inl ⟨rfl, val_int (by omega)⟩))
            case measure => simp [intOf]
          · go_wp2_with fail
            go_round
            case rel => exact Or.inr (Or.inr (Or.inr (⟨rfl, val_int (by omega)⟩)))
            case measure => simp [intOf]
          · go_wp2_with fail
            go_round
            case rel => exact ⟨k + 1, by omega, by go_num, by rw [HST.out]; exact val_int (by omega)⟩
            case measure => simp [intOf]; omega
      · rw [h1, show 2 ^ (8 * (3 - 1)) = 65536 from rfl] at HST
        clear h1
        go_wp2_with fail
        go_loop [8, 9] (fun v j => (j = .int .i64 1 ∧ v = .int .u32 ((b * 1 : Nat) : Int)) ∨ (j = .int .i64 2 ∧ v = .int .u32 ((b * 256 : Nat) : Int)) ∨ (j = .int .i64 3 ∧ v = .int .u32 ((b * 65536 : Nat) : Int))) (fun _ j => 3 - (intOf j).toNat)
        case atStart => exact Or.inl ⟨rfl, by simp⟩
        case round =>
          rcases hrel with ⟨rfl, rfl⟩ | ⟨rfl, rfl⟩ | ⟨rfl, rfl⟩
          · go_wp2_with fail
            go_round
            case rel => exact Or.inr (Or.inl ⟨rfl, val_int (by omega)⟩)
            case measure => simp [intOf]
          · go_wp2_with fail
            go_round
            case rel => exact Or.inr (Or.inr (⟨rfl, val_int (by omega)⟩))
            case measure => simp [intOf]
          · go_wp2_with fail
            go_round
            case rel => exact ⟨k + 1, by omega, by go_num, by rw [HST.out]; exact val_int (by omega)⟩
            case measure => simp [intOf]; omega
      · rw [h1, show 2 ^ (8 * (3 - 2)) = 256 from rfl] at HST
        clear h1
        go_wp2_with fail
        go_loop [8, 9] (fun v j => (j = .int .i64 2 ∧ v = .int .u32 ((b * 1 : Nat) : Int)) ∨ (j = .int .i64 3 ∧ v = .int .u32 ((b * 256 : Nat) : Int))) (fun _ j => 3 - (intOf j).toNat)
        case atStart => exact Or.inl ⟨rfl, by simp⟩
        case round =>
          rcases hrel with ⟨rfl, rfl⟩ | ⟨rfl, rfl⟩
          · go_wp2_with fail
            go_round
            case rel => exact Or.inr (⟨rfl, val_int (by omega)⟩)
            case measure => simp [intOf]
          · go_wp2_with fail
            go_round
            case rel => exact ⟨k + 1, by omega, by go_num, by rw [HST.out]; exact val_int (by omega)⟩
            case measure => simp [intOf]; omega
      · rw [h1, show 2 ^ (8 * (3 - 3)) = 1 from rfl] at HST
        clear h1
        go_wp2_with fail
        go_loop [8, 9] (fun v j => (j = .int .i64 3 ∧ v = .int .u32 ((b * 1 : Nat) : Int))) (fun _ j => 3 - (intOf j).toNat)
        case atStart => exact ⟨rfl, by simp⟩
        case round =>
          rcases hrel with ⟨rfl, rfl⟩
          · go_wp2_with fail
            go_round
            case rel => exact ⟨k + 1, by omega, by go_num, by rw [HST.out]; exact val_int (by omega)⟩
            case measure => simp [intOf]; omega
    · obtain rfl : k = l.length := by omega
      go_wp2_with fail
      go_ret
      exact ⟨rfl, rfl⟩
theorem cRefSum (w : World) (v : Value) (l : List Nat) (h : RdB w v l) (hn : l.length < 100000000) : Calls Try.prog 43 #[v] w fun e w' => e = .returned (.int .u32 (Fil.sumV l : Nat)) ∧ w = w' := by
  have HP := hid (cRefPiece w v l h hn)
  generalize Fil.sumV l = z at *
  go_enter Try.func43, Try.ntmps43
  go_wp2_with fail
  refine HP.out.mono ?_
  rintro e w' ⟨rfl, rfl⟩
  go_wp2_with fail
  go_ret
  exact ⟨rfl, rfl⟩
end Go.Proofs.Ytfjadhkhmhnccaa
