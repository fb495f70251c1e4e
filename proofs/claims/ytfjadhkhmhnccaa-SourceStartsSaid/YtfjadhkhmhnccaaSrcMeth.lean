/- The contracts of the sending end's small methods. -/
import Derived.Test.YtfjadhkhmhnccaaSrcNew
set_option linter.unusedVariables false
set_option linter.unusedSimpArgs false
namespace Fil
def Src.pass (s : Src) (now : Int) : Src := if s.now < now ∧ now ≤ 1099511627776 then { s with now := now } else s
def Src.stateV (s : Src) : Int := if s.susp = true then 3 else if s.phase = 0 then 1 else if s.phase = 4 then 4 else if s.phase = 5 then 5 else if s.phase = 6 then 6 else 2
def Src.suspV (s : Src) (now : Int) : Src × Int := if (s.pass now).susp = true ∨ 1 < (s.pass now).phase then (s.pass now, 12) else ({ s.pass now with susp := true }, 0)
def Src.resV (s : Src) (now : Int) : Src × Int := if (s.pass now).susp = false then (s.pass now, 12) else ({ s.pass now with susp := false, timer := (s.pass now).now }, 0)
end Fil
namespace Go.Proofs.Ytfjadhkhmhnccaa
open Go.RowKit Go.Proofs.Num
structure SrcC (w : World) (q : Nat) (s : Fil.Src) (dv wv : Value) : Prop where
  k0 : w.cell? ⟨q, 0, none⟩ = some (.bool true)
  k1 : w.cell? ⟨q, 1, none⟩ = some (.int .i64 s.src)
  k2 : w.cell? ⟨q, 2, none⟩ = some (.int .i64 s.num)
  k3 : w.cell? ⟨q, 3, none⟩ = some (.int .i64 s.cls)
  k4 : w.cell? ⟨q, 4, none⟩ = some (.string s.name)
  k5 : w.cell? ⟨q, 5, none⟩ = some (dv)
  k6 : w.cell? ⟨q, 6, none⟩ = some (.int .i64 s.chunk)
  k7 : w.cell? ⟨q, 7, none⟩ = some (.int .i64 s.timeout)
  k8 : w.cell? ⟨q, 8, none⟩ = some (.int .i64 s.retries)
  k9 : w.cell? ⟨q, 9, none⟩ = some (.int .i64 s.now)
  k10 : w.cell? ⟨q, 10, none⟩ = some (.int .i64 s.phase)
  k11 : w.cell? ⟨q, 11, none⟩ = some (.bool s.susp)
  k12 : w.cell? ⟨q, 12, none⟩ = some (.bool s.started)
  k13 : w.cell? ⟨q, 13, none⟩ = some (.int .i64 s.at')
  k14 : w.cell? ⟨q, 14, none⟩ = some (.bool s.meta')
  k15 : w.cell? ⟨q, 15, none⟩ = some (wv)
  k16 : w.cell? ⟨q, 16, none⟩ = some (.bool s.acked)
  k17 : w.cell? ⟨q, 17, none⟩ = some (.int .i64 s.timer)
  k18 : w.cell? ⟨q, 18, none⟩ = some (.int .i64 s.tries)
  k19 : w.cell? ⟨q, 19, none⟩ = some (.bool s.due)
  k20 : w.cell? ⟨q, 20, none⟩ = some (.int .i64 s.code)
  fr : ∀ j, w.frozen? ⟨q, j, none⟩ = false
theorem Sts.srcC {W w : World} {l : List HProp} {q : Nat} {s : Fil.Src} {dv wv : Value} (h : Sts W (blkP q (.cells (s.cells dv wv) 64 (0, 0)) :: l) w) : SrcC w q s dv wv :=
  ⟨(Sts.boxCell h 0 _ rfl).1, (Sts.boxCell h 1 _ rfl).1, (Sts.boxCell h 2 _ rfl).1, (Sts.boxCell h 3 _ rfl).1, (Sts.boxCell h 4 _ rfl).1, (Sts.boxCell h 5 _ rfl).1, (Sts.boxCell h 6 _ rfl).1, (Sts.boxCell h 7 _ rfl).1, (Sts.boxCell h 8 _ rfl).1, (Sts.boxCell h 9 _ rfl).1, (Sts.boxCell h 10 _ rfl).1, (Sts.boxCell h 11 _ rfl).1, (Sts.boxCell h 12 _ rfl).1, (Sts.boxCell h 13 _ rfl).1, (Sts.boxCell h 14 _ rfl).1, (Sts.boxCell h 15 _ rfl).1, (Sts.boxCell h 16 _ rfl).1, (Sts.boxCell h 17 _ rfl).1, (Sts.boxCell h 18 _ rfl).1, (Sts.boxCell h 19 _ rfl).1, (Sts.boxCell h 20 _ rfl).1, fun j => by obtain ⟨F, hF⟩ := h.head; exact free_blk hF.1⟩
theorem cOkS (w : World) (q : Nat) (c0 : w.cell? ⟨q, 0, none⟩ = some (.bool true)) : Calls Try.prog 59 #[.pointer (some ⟨q, 0, none⟩)] w fun e w' => e = .returned (.bool true) ∧ w = w' := by
  go_enter Try.func59, Try.ntmps59
  go_wp2_with fail
  go_ret
  exact ⟨rfl, rfl⟩
theorem cOkSnil (w : World) : Calls Try.prog 59 #[.pointer none] w fun e w' => e = .returned (.bool false) ∧ w = w' := by
  go_enter Try.func59, Try.ntmps59
  go_wp2_with fail
  go_ret
  exact ⟨rfl, rfl⟩
theorem cOkSzero (w : World) (q : Nat) (c0 : w.cell? ⟨q, 0, none⟩ = some (.bool false)) : Calls Try.prog 59 #[.pointer (some ⟨q, 0, none⟩)] w fun e w' => e = .returned (.bool false) ∧ w = w' := by
  go_enter Try.func59, Try.ntmps59
  go_wp2_with fail
  go_ret
  exact ⟨rfl, rfl⟩
section
variable {W w : World} {l : List HProp} (hl : ∀ B ∈ l, Stable B) (q : Nat) (s : Fil.Src) (hs : Sts W (srcP q s :: l) w)
include hl hs
set_option maxRecDepth 100000 in
theorem cPass (now : Int) : Calls Try.prog 60 #[.pointer (some ⟨q, 0, none⟩), .int .i64 now] w fun e w' => e = .returned (.tuple #[]) ∧ Sts W (srcP q (s.pass now) :: l) w' := by
  obtain ⟨dv, wv, h⟩ := Sts.openSrc hs
  have hC := Sts.srcC h
  have hst := Sts.store (stabC (rowP_stable _ _ _ _ _) (stabC (rowP_stable _ _ _ _ _) hl)) h (j := 9) (.int .i64 now)
  have HO := hid hs
  have HST := hid hst
  have k9 := hC.k9
  have fr := hC.fr 9
  clear h hst hC hs
  have hp : (s.now < now ∧ now ≤ 1099511627776) ∨ ¬ (s.now < now ∧ now ≤ 1099511627776) := Classical.em _
  rcases hp with hp | hp
  · have e : s.pass now = { s with now := now } := by unfold Fil.Src.pass; rw [if_pos hp]
    rw [e]
    have d1 : decide (s.now < now) = true := decide_eq_true hp.1
    have d2 : decide (now ≤ 1099511627776) = true := decide_eq_true hp.2
    clear hp e
    go_enter Try.func60, Try.ntmps60
    go_wp2_with fail
    go_end0
    exact ⟨rfl, Sts.shutSrc (dv := dv) (wv := wv) HST.out⟩
  · have e : s.pass now = s := by unfold Fil.Src.pass; rw [if_neg hp]
    rw [e]
    have d : decide (s.now < now) = false ∨ (decide (s.now < now) = true ∧ decide (now ≤ 1099511627776) = false) := by
      simp only [decide_eq_true_eq, decide_eq_false_iff_not]; omega
    clear hp e
    rcases d with d1 | ⟨d1, d2⟩
    all_goals
      go_enter Try.func60, Try.ntmps60
      go_wp2_with fail
      go_end0
      exact ⟨rfl, HO.out⟩
omit hl in
set_option maxRecDepth 100000 in
theorem cStateS : Calls Try.prog 17 #[.pointer (some ⟨q, 0, none⟩)] w fun e w' => e = .returned (.int .i64 s.stateV) ∧ w = w' := by
  obtain ⟨dv, wv, h⟩ := Sts.openSrc hs
  have hC := Sts.srcC h
  have k0 := hC.k0
  have k10 := hC.k10
  have k11 := hC.k11
  have HOK := hid (cOkS w q k0)
  have HV := hid (show s.stateV = if s.susp = true then 3 else if s.phase = 0 then 1 else if s.phase = 4 then 4 else if s.phase = 5 then 5 else if s.phase = 6 then 6 else 2 from rfl)
  clear h hC hs
  generalize s.stateV = sv at *
  generalize s.susp = sp at *
  generalize s.phase = ph at *
  cases sp with
  | true =>
    have HF : Hid (sv = 3) := hid (by rw [HV.out]; rfl)
    go_enter Try.func17, Try.ntmps17
    go_wp2_with fail
    refine HOK.out.mono ?_
    rintro e w' ⟨rfl, rfl⟩
    go_wp2_with fail
    go_ret
    exact ⟨ret_int HF.out.symm, rfl⟩
  | false =>
    have hph : ph = 0 ∨ ph = 4 ∨ ph = 5 ∨ ph = 6 ∨ (ph ≠ 0 ∧ ph ≠ 4 ∧ ph ≠ 5 ∧ ph ≠ 6) := by omega
    rcases hph with rfl | rfl | rfl | rfl | ⟨n0, n4, n5, n6⟩
    iterate 4
      (have HF := hid HV.out
       simp at HF
       clear HV
       go_enter Try.func17, Try.ntmps17
       go_wp2_with fail
       refine HOK.out.mono ?_
       rintro e w' ⟨rfl, rfl⟩
       go_wp2_with fail
       go_ret
       exact ⟨ret_int HF.out.symm, rfl⟩)
    have HF : Hid (sv = 2) := hid (by rw [HV.out, if_neg (by decide), if_neg n0, if_neg n4, if_neg n5, if_neg n6])
    have b0 : (ph == 0) = false := by simpa using n0
    have b4 : (ph == 4) = false := by simpa using n4
    have b5 : (ph == 5) = false := by simpa using n5
    have b6 : (ph == 6) = false := by simpa using n6
    clear HV n0 n4 n5 n6
    go_enter Try.func17, Try.ntmps17
    go_wp2_with fail
    refine HOK.out.mono ?_
    rintro e w' ⟨rfl, rfl⟩
    go_wp2_with fail
    go_ret
    exact ⟨ret_int HF.out.symm, rfl⟩
omit hl in
theorem cCodeS : Calls Try.prog 19 #[.pointer (some ⟨q, 0, none⟩)] w fun e w' => e = .returned (.int .i64 s.code) ∧ w = w' := by
  obtain ⟨dv, wv, h⟩ := Sts.openSrc hs
  have hC := Sts.srcC h
  have k0 := hC.k0
  have k20 := hC.k20
  have HOK := hid (cOkS w q k0)
  clear h hC hs
  generalize s.code = c at *
  go_enter Try.func19, Try.ntmps19
  go_wp2_with fail
  refine HOK.out.mono ?_
  rintro e w' ⟨rfl, rfl⟩
  go_wp2_with fail
  go_ret
  exact ⟨rfl, rfl⟩
end
theorem cStateSnil (w : World) : Calls Try.prog 17 #[.pointer none] w fun e w' => e = .returned (.int .i64 0) ∧ w = w' := by
  go_enter Try.func17, Try.ntmps17
  go_wp2_with fail
  refine (cOkSnil w).mono ?_
  rintro e w' ⟨rfl, rfl⟩
  go_wp2_with fail
  go_ret
  exact ⟨rfl, rfl⟩
theorem cCodeSnil (w : World) : Calls Try.prog 19 #[.pointer none] w fun e w' => e = .returned (.int .i64 0) ∧ w = w' := by
  go_enter Try.func19, Try.ntmps19
  go_wp2_with fail
  refine (cOkSnil w).mono ?_
  rintro e w' ⟨rfl, rfl⟩
  go_wp2_with fail
  go_ret
  exact ⟨rfl, rfl⟩
end Go.Proofs.Ytfjadhkhmhnccaa
