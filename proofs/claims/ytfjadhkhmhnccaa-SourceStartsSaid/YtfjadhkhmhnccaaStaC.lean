/- SourceStarts: every input. -/
import Derived.Test.YtfjadhkhmhnccaaStaB
set_option linter.unusedVariables false
set_option linter.unusedSimpArgs false
namespace Go.Proofs.Ytfjadhkhmhnccaa
open Go.RowKit Go.Proofs.Num Go.ChangeShapes
theorem cRefState0 (w : World) (q : Nat) (h8 : w.cell? ⟨q, 8, none⟩ = some (.int .i64 0)) : Calls Try.prog 18 #[.pointer (some ⟨q, 0, none⟩)] w fun e w' => e = .returned (.int .i64 0) ∧ w = w' := by
  go_enter Try.func18, Try.ntmps18
  go_wp2_with fail
  go_ret
  exact ⟨rfl, rfl⟩
theorem cRefState1 (w : World) (q : Nat) (h8 : w.cell? ⟨q, 8, none⟩ = some (.int .i64 1)) (h13 : w.cell? ⟨q, 13, none⟩ = some (.bool false)) : Calls Try.prog 18 #[.pointer (some ⟨q, 0, none⟩)] w fun e w' => e = .returned (.int .i64 1) ∧ w = w' := by
  go_enter Try.func18, Try.ntmps18
  go_wp2_with fail
  go_ret
  exact ⟨rfl, rfl⟩
set_option maxRecDepth 100000 in
set_option maxHeartbeats 4000000 in
theorem starts_big (w : World) (src num cls chunk timeout retries : Int) (name : ByteArray) (vd vl : Value) (data : List Nat) (S : List Fil.Stp) (hd : RdB w vd data) (hS : StpsAt w vl S) (hsm : Fil.smallB name.size data.length S = false) : Calls Try.prog 3 #[.agg #[.int .i64 src, .int .i64 num, .int .i64 cls, .string name, vd, .int .i64 chunk, .int .i64 timeout, .int .i64 retries, vl]] w fun e w' => e = .returned (.bool true) ∧ Below w.heap.size w w' := by
  obtain ⟨da, dc, hde⟩ := hd.1.eq
  rw [u8s_len] at hde
  subst hde
  have hbw := (Below.refl w.heap.size w).alloc (Nat.le_refl _) (.cells #[.int .i64 src, .int .i64 num, .int .i64 cls, .string name, .slice da data.length dc, .int .i64 chunk, .int .i64 timeout, .int .i64 retries, vl] 29)
  have hsmall := cSmall (w.alloc (.cells #[.int .i64 src, .int .i64 num, .int .i64 cls, .string name, .slice da data.length dc, .int .i64 chunk, .int .i64 timeout, .int .i64 retries, vl] 29)) src num cls chunk timeout retries name _ vl data S (hd.below hbw) (hS.below hbw)
  rw [hsm] at hsmall
  have HSM := hid hsmall
  have H0 := hid ((Sts.nil w).alloc stab0 (.cells #[.int .i64 src, .int .i64 num, .int .i64 cls, .string name, .slice da data.length dc, .int .i64 chunk, .int .i64 timeout, .int .i64 retries, vl] 29))
  have HD := hid hd
  clear hsmall hbw hd hS hsm
  have HB0 := hid H0.out.below
  go_enter Try.func3, Try.ntmps3
  go_wp2_with (first | (go_at_call 13; refine HSM.out.mono ?_; rintro e w1 ⟨rfl, hb1⟩; have HBL := hid (HB0.out.trans (hb1.mono HB0.out.size)); clear hb1) | (go_at_call 14; refine (cLives27 _).mono ?_; rintro e w9 ⟨rfl, hb9⟩; have H9 := hid (HBL.out.trans (hb9.mono HBL.out.size)); clear hb9))
  go_ret
  exact ⟨rfl, H9.out⟩
set_option maxRecDepth 100000 in
set_option maxHeartbeats 8000000 in
theorem starts_ok (w : World) (src num cls chunk timeout retries : Int) (name : ByteArray) (vd vl : Value) (data : List Nat) (S : List Fil.Stp) (hd : RdB w vd data) (hS : StpsAt w vl S) (hsm : Fil.smallB name.size data.length S = true) (hname : name.size ≤ 1000000) (hb : Fil.newB src num cls name data.length chunk timeout retries = true) (hn : data.length < 100000000) : Calls Try.prog 3 #[.agg #[.int .i64 src, .int .i64 num, .int .i64 cls, .string name, vd, .int .i64 chunk, .int .i64 timeout, .int .i64 retries, vl]] w fun e w' => e = .returned (.bool true) ∧ Below w.heap.size w w' := by
  obtain ⟨da, dc, hde⟩ := hd.1.eq
  rw [u8s_len] at hde
  subst hde
  have hbw := (Below.refl w.heap.size w).alloc (Nat.le_refl _) (.cells #[.int .i64 src, .int .i64 num, .int .i64 cls, .string name, .slice da data.length dc, .int .i64 chunk, .int .i64 timeout, .int .i64 retries, vl] 29)
  have hsmall := cSmall (w.alloc (.cells #[.int .i64 src, .int .i64 num, .int .i64 cls, .string name, .slice da data.length dc, .int .i64 chunk, .int .i64 timeout, .int .i64 retries, vl] 29)) src num cls chunk timeout retries name _ vl data S (hd.below hbw) (hS.below hbw)
  rw [hsm] at hsmall
  have HSM := hid hsmall
  have H0 := hid ((Sts.nil w).alloc stab0 (.cells #[.int .i64 src, .int .i64 num, .int .i64 cls, .string name, .slice da data.length dc, .int .i64 chunk, .int .i64 timeout, .int .i64 retries, vl] 29))
  have HD := hid hd
  clear hsmall hbw hd hS hsm
  have hv : (Fil.headP src num cls name data.length).validB = true ∧ cfgB chunk timeout retries = true := by rw [newB_eq] at hb; simpa using hb
  have HV := hid hv
  have HNB := hid hb
  clear hv hb
  go_enter Try.func3, Try.ntmps3
  go_wp2_with (first | (go_at_call 13; refine HSM.out.mono ?_; rintro e w1 ⟨rfl, hb1⟩; have H1 := hid (H0.out.quiet (stab1 (blkP_stable _ _)) hb1); clear hb1; have q0 := (Sts.boxCell H1.out 0 _ rfl).1; have q1 := (Sts.boxCell H1.out 1 _ rfl).1; have q2 := (Sts.boxCell H1.out 2 _ rfl).1; have q3 := (Sts.boxCell H1.out 3 _ rfl).1; have q4 := (Sts.boxCell H1.out 4 _ rfl).1; have q5 := (Sts.boxCell H1.out 5 _ rfl).1; have q6 := (Sts.boxCell H1.out 6 _ rfl).1; have q7 := (Sts.boxCell H1.out 7 _ rfl).1))
  clear HSM H0 q0 q1 q2 q3 q4 q5 q6 q7
  refine (cNewOk (stab1 (blkP_stable _ _)) src num cls name _ data chunk timeout retries H1.out (RdsB.arg HD.out) hname hn HNB.out).mono ?_
  rintro e w2 ⟨q1', rfl, h⟩
  have H2 := hid h
  clear h H1
  have q0 := (Sts.boxCell H2.out.swap 0 _ rfl).1
  have q1 := (Sts.boxCell H2.out.swap 1 _ rfl).1
  have q2 := (Sts.boxCell H2.out.swap 2 _ rfl).1
  have q3 := (Sts.boxCell H2.out.swap 3 _ rfl).1
  have q4 := (Sts.boxCell H2.out.swap 4 _ rfl).1
  have q5 := (Sts.boxCell H2.out.swap 5 _ rfl).1
  have q6 := (Sts.boxCell H2.out.swap 6 _ rfl).1
  have q7 := (Sts.boxCell H2.out.swap 7 _ rfl).1
  go_wp2_with fail
  clear q0 q1 q2 q3 q4 q5 q6 q7
  refine (cRefNewOk w2 src num cls chunk timeout retries name da data.length dc hname HV.out.1 HV.out.2).mono ?_
  rintro e w3 ⟨rfl, hb3⟩
  have HX0 := hid ((H2.out.quiet (stabC (srcP_stable _ _) (stab1 (blkP_stable _ _))) hb3).alloc (stabC (srcP_stable _ _) (stab1 (blkP_stable _ _))) (.cells #[.int .i64 0, .int .i64 0, .int .i64 0, .string ⟨#[]⟩, .slice none 0 0, .int .i64 0, .int .i64 0, .int .i64 0, .int .i64 0, .int .i64 0, .int .i64 0, .int .i64 0, .int .i64 0, .bool false, .bool false, .bool false, .bool false, .bool false, .slice none 0 0, .int .i64 0] 38))
  clear hb3 H2
  go_wp2_with (first | (refine wpList_store_agg HX0.out (stabC (srcP_stable _ _) (stab1 (blkP_stable _ _))) rfl (.tmp 5) (.tmp 37) 38 rfl #[.int .i64 src, .int .i64 num, .int .i64 cls, .string name, .slice da data.length dc, .int .i64 chunk, .int .i64 timeout, .int .i64 retries, .int .i64 1, .int .i64 0, .int .i64 0, .int .i64 0, .int .i64 0, .bool false, .bool false, .bool false, .bool false, .bool false, .slice none 0 0, .int .i64 0] rfl rfl size20 rfl (fun v hv => List.all_eq_true.1 (show (#[.int .i64 src, .int .i64 num, .int .i64 cls, .string name, .slice da data.length dc, .int .i64 chunk, .int .i64 timeout, .int .i64 retries, .int .i64 1, .int .i64 0, .int .i64 0, .int .i64 0, .int .i64 0, .bool false, .bool false, .bool false, .bool false, .bool false, .slice none 0 0, .int .i64 0].toList).all (fun v => v.oneCell') = true from rfl) v hv) (by kernel_rfl) ?_; intro w7 hZ; have HX := hid hZ; clear hZ HX0; have HRS := hid (cRefState1 _ _ (Sts.boxCell HX.out 8 _ rfl).1 (Sts.boxCell HX.out 13 _ rfl).1); have hst := cStateS q1' (newSrc src num cls name data chunk timeout retries) HX.out.swap; rw [show (newSrc src num cls name data chunk timeout retries).stateV = 1 by kernel_rfl] at hst; have HST := hid hst; have hcd := cCodeS q1' (newSrc src num cls name data chunk timeout retries) HX.out.swap; rw [show (newSrc src num cls name data chunk timeout retries).code = 0 by kernel_rfl] at hcd; have HCD := hid hcd; have HBL := hid HX.out.below; clear hst hcd HX) | (go_at_call 17; refine HST.out.mono ?_; rintro e w4 ⟨rfl, rfl⟩) | (go_at_call 18; refine HRS.out.mono ?_; rintro e w4 ⟨rfl, rfl⟩) | (go_at_call 19; refine HCD.out.mono ?_; rintro e w4 ⟨rfl, rfl⟩) | (go_at_call 14; refine (cLives27 _).mono ?_; rintro e w9 ⟨rfl, hb9⟩; have H9 := hid (HBL.out.trans (hb9.mono HBL.out.size)); clear hb9))
  go_ret
  exact ⟨rfl, H9.out⟩
set_option maxRecDepth 100000 in
set_option maxHeartbeats 8000000 in
theorem starts_bad (w : World) (src num cls chunk timeout retries : Int) (name : ByteArray) (vd vl : Value) (data : List Nat) (S : List Fil.Stp) (hd : RdB w vd data) (hS : StpsAt w vl S) (hsm : Fil.smallB name.size data.length S = true) (hname : name.size ≤ 1000000) (hb : Fil.newB src num cls name data.length chunk timeout retries = false) : Calls Try.prog 3 #[.agg #[.int .i64 src, .int .i64 num, .int .i64 cls, .string name, vd, .int .i64 chunk, .int .i64 timeout, .int .i64 retries, vl]] w fun e w' => e = .returned (.bool true) ∧ Below w.heap.size w w' := by
  obtain ⟨da, dc, hde⟩ := hd.1.eq
  rw [u8s_len] at hde
  subst hde
  have hbw := (Below.refl w.heap.size w).alloc (Nat.le_refl _) (.cells #[.int .i64 src, .int .i64 num, .int .i64 cls, .string name, .slice da data.length dc, .int .i64 chunk, .int .i64 timeout, .int .i64 retries, vl] 29)
  have hsmall := cSmall (w.alloc (.cells #[.int .i64 src, .int .i64 num, .int .i64 cls, .string name, .slice da data.length dc, .int .i64 chunk, .int .i64 timeout, .int .i64 retries, vl] 29)) src num cls chunk timeout retries name _ vl data S (hd.below hbw) (hS.below hbw)
  rw [hsm] at hsmall
  have HSM := hid hsmall
  have H0 := hid ((Sts.nil w).alloc stab0 (.cells #[.int .i64 src, .int .i64 num, .int .i64 cls, .string name, .slice da data.length dc, .int .i64 chunk, .int .i64 timeout, .int .i64 retries, vl] 29))
  have HD := hid hd
  clear hsmall hbw hd hS hsm
  have hrn : ∀ (y : World) (a : Option Addr) (c : Nat), Calls Try.prog 16 #[.agg #[.int .i64 src, .int .i64 num], .int .i64 cls, .string name, .slice a data.length c, .agg #[.int .i64 chunk, .int .i64 timeout, .int .i64 retries]] y fun e w' => e = .returned (.tuple #[.agg #[.int .i64 0, .int .i64 0, .int .i64 0, .string ⟨#[]⟩, .slice none 0 0, .int .i64 0, .int .i64 0, .int .i64 0, .int .i64 0, .int .i64 0, .int .i64 0, .int .i64 0, .int .i64 0, .bool false, .bool false, .bool false, .bool false, .bool false, .slice none 0 0, .int .i64 0], .int .i64 1]) ∧ Below y.heap.size y w' := fun y a c => by
    cases hv : (Fil.headP src num cls name data.length).validB with
    | false => exact cRefNewBad y src num cls chunk timeout retries name a data.length c hname hv
    | true =>
      have hc : cfgB chunk timeout retries = false := by rw [newB_eq, hv] at hb; simpa using hb
      exact cRefNewCfg y src num cls chunk timeout retries name a data.length c hname hv hc
  have HRN := hid hrn
  have HNB := hid hb
  clear hrn hb
  go_enter Try.func3, Try.ntmps3
  go_wp2_with (first | (go_at_call 13; refine HSM.out.mono ?_; rintro e w1 ⟨rfl, hb1⟩; have H1 := hid (H0.out.quiet (stab1 (blkP_stable _ _)) hb1); clear hb1; have q0 := (Sts.boxCell H1.out 0 _ rfl).1; have q1 := (Sts.boxCell H1.out 1 _ rfl).1; have q2 := (Sts.boxCell H1.out 2 _ rfl).1; have q3 := (Sts.boxCell H1.out 3 _ rfl).1; have q4 := (Sts.boxCell H1.out 4 _ rfl).1; have q5 := (Sts.boxCell H1.out 5 _ rfl).1; have q6 := (Sts.boxCell H1.out 6 _ rfl).1; have q7 := (Sts.boxCell H1.out 7 _ rfl).1))
  clear HSM H0 q0 q1 q2 q3 q4 q5 q6 q7
  refine (cNewBad (stab1 (blkP_stable _ _)) src num cls name _ data chunk timeout retries H1.out (RdsB.arg HD.out) hname HNB.out).mono ?_
  rintro e w2 ⟨rfl, h⟩
  have H2 := hid h
  clear h H1
  have q0 := (Sts.boxCell H2.out 0 _ rfl).1
  have q1 := (Sts.boxCell H2.out 1 _ rfl).1
  have q2 := (Sts.boxCell H2.out 2 _ rfl).1
  have q3 := (Sts.boxCell H2.out 3 _ rfl).1
  have q4 := (Sts.boxCell H2.out 4 _ rfl).1
  have q5 := (Sts.boxCell H2.out 5 _ rfl).1
  have q6 := (Sts.boxCell H2.out 6 _ rfl).1
  have q7 := (Sts.boxCell H2.out 7 _ rfl).1
  go_wp2_with fail
  clear q0 q1 q2 q3 q4 q5 q6 q7
  refine (HRN.out w2 da dc).mono ?_
  rintro e w3 ⟨rfl, hb3⟩
  have HX0 := hid ((H2.out.quiet (stab1 (blkP_stable _ _)) hb3).alloc (stab1 (blkP_stable _ _)) (.cells #[.int .i64 0, .int .i64 0, .int .i64 0, .string ⟨#[]⟩, .slice none 0 0, .int .i64 0, .int .i64 0, .int .i64 0, .int .i64 0, .int .i64 0, .int .i64 0, .int .i64 0, .int .i64 0, .bool false, .bool false, .bool false, .bool false, .bool false, .slice none 0 0, .int .i64 0] 38))
  clear hb3 H2
  go_wp2_with (first | (refine wpList_store_agg HX0.out (stab1 (blkP_stable _ _)) rfl (.tmp 5) (.tmp 37) 38 rfl #[.int .i64 0, .int .i64 0, .int .i64 0, .string ⟨#[]⟩, .slice none 0 0, .int .i64 0, .int .i64 0, .int .i64 0, .int .i64 0, .int .i64 0, .int .i64 0, .int .i64 0, .int .i64 0, .bool false, .bool false, .bool false, .bool false, .bool false, .slice none 0 0, .int .i64 0] rfl rfl size20 rfl (fun v hv => List.all_eq_true.1 (show (#[.int .i64 0, .int .i64 0, .int .i64 0, .string ⟨#[]⟩, .slice none 0 0, .int .i64 0, .int .i64 0, .int .i64 0, .int .i64 0, .int .i64 0, .int .i64 0, .int .i64 0, .int .i64 0, .bool false, .bool false, .bool false, .bool false, .bool false, .slice none 0 0, .int .i64 0].toList).all (fun v => v.oneCell') = true from rfl) v hv) (by kernel_rfl) ?_; intro w7 hZ; have HX := hid hZ; clear hZ HX0; have HRS := hid (cRefState0 _ _ (Sts.boxCell HX.out 8 _ rfl).1); have HBL := hid HX.out.below; clear HX) | (go_at_call 17; refine (cStateSnil _).mono ?_; rintro e w4 ⟨rfl, rfl⟩) | (go_at_call 18; refine HRS.out.mono ?_; rintro e w4 ⟨rfl, rfl⟩) | (go_at_call 19; refine (cCodeSnil _).mono ?_; rintro e w4 ⟨rfl, rfl⟩) | (go_at_call 14; refine (cLives27 _).mono ?_; rintro e w9 ⟨rfl, hb9⟩; have H9 := hid (HBL.out.trans (hb9.mono HBL.out.size)); clear hb9))
  go_ret
  exact ⟨rfl, H9.out⟩
theorem starts_all (w : World) (src num cls chunk timeout retries : Int) (name : ByteArray) (vd vl : Value) (data : List Nat) (S : List Fil.Stp) (hd : RdB w vd data) (hS : StpsAt w vl S) : Calls Try.prog 3 #[.agg #[.int .i64 src, .int .i64 num, .int .i64 cls, .string name, vd, .int .i64 chunk, .int .i64 timeout, .int .i64 retries, vl]] w fun e w' => e = .returned (.bool true) ∧ Below w.heap.size w w' := by
  cases hsm : Fil.smallB name.size data.length S with
  | false => exact starts_big w src num cls chunk timeout retries name vd vl data S hd hS hsm
  | true =>
    have hname : name.size ≤ 1000000 := by
      unfold Fil.smallB Fil.preB at hsm
      simp only [Bool.and_eq_true, Bool.not_eq_true', Bool.or_eq_false_iff, decide_eq_false_iff_not] at hsm
      omega
    have hn : data.length < 100000000 := by
      unfold Fil.smallB Fil.preB at hsm
      simp only [Bool.and_eq_true, Bool.not_eq_true', Bool.or_eq_false_iff, decide_eq_false_iff_not] at hsm
      omega
    cases hb : Fil.newB src num cls name data.length chunk timeout retries with
    | false => exact starts_bad w src num cls chunk timeout retries name vd vl data S hd hS hsm hname hb
    | true => exact starts_ok w src num cls chunk timeout retries name vd vl data S hd hS hsm hname hb hn
end Go.Proofs.Ytfjadhkhmhnccaa
