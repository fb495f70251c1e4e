/- SourceClones: a clone and its original, nil pointers and zero values. -/
import Derived.Test.YtfjadhkhmhnccaaPlyC
import Derived.Test.YtfjadhkhmhnccaaSrcCln
import Derived.Test.YtfjadhkhmhnccaaSrcNil
set_option linter.unusedVariables false
set_option linter.unusedSimpArgs false
namespace Go.Proofs.Ytfjadhkhmhnccaa
open Go.RowKit Go.Proofs.Num
theorem lt_z {W w : World} {l : List HProp} {b : Nat} {o : Obj} (h : Sts W (blkP b o :: l) w) : b < w.heap.size := by
  obtain ⟨F, hF⟩ := h.head; exact lt_of_heap hF.1
/-- A second sending end of the specification over the same row of ranges. -/
theorem Sts.pair {W w : World} {l : List HProp} {b2 : Nat} {s : Fil.Src} {vd wv : Value} (h : Sts W (blkP b2 (.cells (s.rcs vd wv) 38 (0, 0)) :: l) w) : Sts W (refP (wv, s.wanted) b2 s vd :: l) w :=
  Sts.shutRef (s := s) (wv := wv) ((h.withEmp.weaken (B := ownW (wv, s.wanted) wv s.wanted) (fun F h => Or.inl ⟨h, rfl, rfl⟩)).swap)
set_option maxRecDepth 100000 in
set_option maxHeartbeats 4000000 in
theorem clones_big (w : World) (src num cls chunk timeout retries : Int) (name : ByteArray) (vd vl : Value) (data : List Nat) (S : List Fil.Stp) (hd : RdB w vd data) (hS : StpsAt w vl S) (hsm : Fil.smallB name.size data.length S = false) : Calls Try.prog 7 #[.agg #[.int .i64 src, .int .i64 num, .int .i64 cls, .string name, vd, .int .i64 chunk, .int .i64 timeout, .int .i64 retries, vl]] w fun e w' => e = .returned (.bool true) ∧ Below w.heap.size w w' := by
  obtain ⟨da, dc, hde⟩ := hd.1.eq
  rw [u8s_len] at hde
  subst hde
  obtain ⟨la, lc, hle, hx⟩ := hS.cells
  subst hle
  have hbw := (Below.refl w.heap.size w).alloc (Nat.le_refl _) (.cells #[.int .i64 src, .int .i64 num, .int .i64 cls, .string name, .slice da data.length dc, .int .i64 chunk, .int .i64 timeout, .int .i64 retries, .slice la S.length lc] 29)
  have hsmall := cSmall (w.alloc (.cells #[.int .i64 src, .int .i64 num, .int .i64 cls, .string name, .slice da data.length dc, .int .i64 chunk, .int .i64 timeout, .int .i64 retries, .slice la S.length lc] 29)) src num cls chunk timeout retries name _ _ data S (hd.below hbw) (hS.below hbw)
  have HSMB := hid hsm
  rw [hsm] at hsmall
  have HSM := hid hsmall
  have H0 := hid ((Sts.nil w).alloc stab0 (.cells #[.int .i64 src, .int .i64 num, .int .i64 cls, .string name, .slice da data.length dc, .int .i64 chunk, .int .i64 timeout, .int .i64 retries, .slice la S.length lc] 29))
  have HD := hid hd
  have HX := hid hx
  clear hsmall hbw hd hS hsm hx
  go_enter Try.func7, Try.ntmps7
  go_wp2_with (first | (go_at_call 13; refine HSM.out.mono ?_; rintro e w1 ⟨rfl, hb1⟩; have H1 := hid (H0.out.quiet (stab1 (blkP_stable _ _)) hb1); clear hb1; have q0 := (Sts.boxCell H1.out 0 _ rfl).1; have q1 := (Sts.boxCell H1.out 1 _ rfl).1; have q2 := (Sts.boxCell H1.out 2 _ rfl).1; have q3 := (Sts.boxCell H1.out 3 _ rfl).1; have q4 := (Sts.boxCell H1.out 4 _ rfl).1; have q5 := (Sts.boxCell H1.out 5 _ rfl).1; have q6 := (Sts.boxCell H1.out 6 _ rfl).1; have q7 := (Sts.boxCell H1.out 7 _ rfl).1; have q8 := (Sts.boxCell H1.out 8 _ rfl).1) | (go_at_call 14; refine (cLives27 _).mono ?_; rintro e w9 ⟨rfl, hb9⟩; have H9 := hid (H1.out.below.trans (hb9.mono H1.out.below.size)); clear hb9))
  go_ret
  exact ⟨rfl, H9.out⟩
set_option maxRecDepth 100000 in
set_option maxHeartbeats 8000000 in
theorem clones_bad (w : World) (src num cls chunk timeout retries : Int) (name : ByteArray) (vd vl : Value) (data : List Nat) (S : List Fil.Stp) (hd : RdB w vd data) (hS : StpsAt w vl S) (hsm : Fil.smallB name.size data.length S = true) (hb : Fil.newB src num cls name data.length chunk timeout retries = false) : Calls Try.prog 7 #[.agg #[.int .i64 src, .int .i64 num, .int .i64 cls, .string name, vd, .int .i64 chunk, .int .i64 timeout, .int .i64 retries, vl]] w fun e w' => e = .returned (.bool true) ∧ Below w.heap.size w w' := by
  obtain ⟨hname, hn, hlen, hall⟩ := small_stp hsm
  replace hname : name.size ≤ 1000000 := by omega
  clear hall hn
  obtain ⟨da, dc, hde⟩ := hd.1.eq
  rw [u8s_len] at hde
  subst hde
  obtain ⟨la, lc, hle, hx⟩ := hS.cells
  subst hle
  have hbw := (Below.refl w.heap.size w).alloc (Nat.le_refl _) (.cells #[.int .i64 src, .int .i64 num, .int .i64 cls, .string name, .slice da data.length dc, .int .i64 chunk, .int .i64 timeout, .int .i64 retries, .slice la S.length lc] 29)
  have hsmall := cSmall (w.alloc (.cells #[.int .i64 src, .int .i64 num, .int .i64 cls, .string name, .slice da data.length dc, .int .i64 chunk, .int .i64 timeout, .int .i64 retries, .slice la S.length lc] 29)) src num cls chunk timeout retries name _ _ data S (hd.below hbw) (hS.below hbw)
  have HSMB := hid hsm
  rw [hsm] at hsmall
  have HSM := hid hsmall
  have H0 := hid ((Sts.nil w).alloc stab0 (.cells #[.int .i64 src, .int .i64 num, .int .i64 cls, .string name, .slice da data.length dc, .int .i64 chunk, .int .i64 timeout, .int .i64 retries, .slice la S.length lc] 29))
  have HD := hid hd
  have HX := hid hx
  clear hsmall hbw hd hS hsm hx
  have hrn : ∀ (y : World) (a : Option Addr) (c : Nat), Calls Try.prog 16 #[.agg #[.int .i64 src, .int .i64 num], .int .i64 cls, .string name, .slice a data.length c, .agg #[.int .i64 chunk, .int .i64 timeout, .int .i64 retries]] y fun e w' => e = .returned (.tuple #[.agg #[.int .i64 0, .int .i64 0, .int .i64 0, .string ⟨#[]⟩, .slice none 0 0, .int .i64 0, .int .i64 0, .int .i64 0, .int .i64 0, .int .i64 0, .int .i64 0, .int .i64 0, .int .i64 0, .bool false, .bool false, .bool false, .bool false, .bool false, .slice none 0 0, .int .i64 0], .int .i64 1]) ∧ Below y.heap.size y w' := fun y a c => by
    cases hv : (Fil.headP src num cls name data.length).validB with
    | false => exact cRefNewBad y src num cls chunk timeout retries name a data.length c hname hv
    | true =>
      have hc : cfgB chunk timeout retries = false := by rw [newB_eq, hv] at hb; simpa using hb
      exact cRefNewCfg y src num cls chunk timeout retries name a data.length c hname hv hc
  have HRN := hid hrn
  have HNB := hid hb
  clear hrn hb
  go_enter Try.func7, Try.ntmps7
  go_wp2_with fail
  refine HSM.out.mono ?_
  rintro e w1 ⟨rfl, hb1⟩
  have H1 := hid (H0.out.quiet (stab1 (blkP_stable _ _)) hb1)
  have HZ0 : Hid (Sts w [blkP w1.heap.size (.cells #[.bool false, .int .i64 0, .int .i64 0, .int .i64 0, .string ⟨#[]⟩, .slice none 0 0, .int .i64 0, .int .i64 0, .int .i64 0, .int .i64 0, .int .i64 0, .bool false, .bool false, .int .i64 0, .bool false, .slice none 0 0, .bool false, .int .i64 0, .int .i64 0, .bool false, .int .i64 0] 64 (0, 0)), blkP w.heap.size (.cells #[.int .i64 src, .int .i64 num, .int .i64 cls, .string name, .slice da data.length dc, .int .i64 chunk, .int .i64 timeout, .int .i64 retries, .slice la S.length lc] 29 (0, 0))] (w1.alloc (.cells #[.bool false, .int .i64 0, .int .i64 0, .int .i64 0, .string ⟨#[]⟩, .slice none 0 0, .int .i64 0, .int .i64 0, .int .i64 0, .int .i64 0, .int .i64 0, .bool false, .bool false, .int .i64 0, .bool false, .slice none 0 0, .bool false, .int .i64 0, .int .i64 0, .bool false, .int .i64 0] 64))) := hid ((H0.out.quiet (stab1 (blkP_stable _ _)) hb1).alloc (stab1 (blkP_stable _ _)) (.cells #[.bool false, .int .i64 0, .int .i64 0, .int .i64 0, .string ⟨#[]⟩, .slice none 0 0, .int .i64 0, .int .i64 0, .int .i64 0, .int .i64 0, .int .i64 0, .bool false, .bool false, .int .i64 0, .bool false, .slice none 0 0, .bool false, .int .i64 0, .int .i64 0, .bool false, .int .i64 0] 64 (0, 0)))
  clear hb1
  go_wp2_with fail
  refine (cNoNext _ (.pointer none) (fun y _ => cOkSnil y) 1).mono ?_
  rintro e w2 ⟨rfl, hb⟩
  have HZ1q : Hid (Sts w [blkP w2.heap.size (.cells zeroPdu 45 (0, 0)), blkP w1.heap.size (.cells #[.bool false, .int .i64 0, .int .i64 0, .int .i64 0, .string ⟨#[]⟩, .slice none 0 0, .int .i64 0, .int .i64 0, .int .i64 0, .int .i64 0, .int .i64 0, .bool false, .bool false, .int .i64 0, .bool false, .slice none 0 0, .bool false, .int .i64 0, .int .i64 0, .bool false, .int .i64 0] 64 (0, 0)), blkP w.heap.size (.cells #[.int .i64 src, .int .i64 num, .int .i64 cls, .string name, .slice da data.length dc, .int .i64 chunk, .int .i64 timeout, .int .i64 retries, .slice la S.length lc] 29 (0, 0))] (w2.alloc (.cells #[.int .i64 0, .int .i64 0, .int .i64 0, .int .i64 0, .string ⟨#[]⟩, .int .i64 0, .int .i64 0, .slice none 0 0, .int .u32 0, .int .i64 0, .slice none 0 0] 45))) := hid ((HZ0.out.quiet (stabC (blkP_stable _ _) (stab1 (blkP_stable _ _))) hb).alloc (stabC (blkP_stable _ _) (stab1 (blkP_stable _ _))) (.cells zeroPdu 45 (0, 0)))
  clear hb
  go_wp2_with (refine wpList_agg HZ1q.out (stabC (blkP_stable _ _) (stab1 (blkP_stable _ _))) rfl (.tmp 5) (.tmp 25) 45 rfl zeroPdu rfl rfl sizePdu rfl rfl ?_; intro w3 hz; have HZ1 := hid hz.tail; clear hz HZ1q)
  refine (cNoNext _ (.pointer (some ⟨w1.heap.size, 0, none⟩)) (fun y hy => cOkSzero y _ (by rw [hy.cell (by have := HZ1.out; exact lt_z this)]; exact (Sts.boxCell HZ1.out 0 _ rfl).1)) 1).mono ?_
  rintro e w2 ⟨rfl, hb⟩
  have HZ2q : Hid (Sts w [blkP w2.heap.size (.cells zeroPdu 45 (0, 0)), blkP w1.heap.size (.cells #[.bool false, .int .i64 0, .int .i64 0, .int .i64 0, .string ⟨#[]⟩, .slice none 0 0, .int .i64 0, .int .i64 0, .int .i64 0, .int .i64 0, .int .i64 0, .bool false, .bool false, .int .i64 0, .bool false, .slice none 0 0, .bool false, .int .i64 0, .int .i64 0, .bool false, .int .i64 0] 64 (0, 0)), blkP w.heap.size (.cells #[.int .i64 src, .int .i64 num, .int .i64 cls, .string name, .slice da data.length dc, .int .i64 chunk, .int .i64 timeout, .int .i64 retries, .slice la S.length lc] 29 (0, 0))] (w2.alloc (.cells #[.int .i64 0, .int .i64 0, .int .i64 0, .int .i64 0, .string ⟨#[]⟩, .int .i64 0, .int .i64 0, .slice none 0 0, .int .u32 0, .int .i64 0, .slice none 0 0] 45))) := hid ((HZ1.out.quiet (stabC (blkP_stable _ _) (stab1 (blkP_stable _ _))) hb).alloc (stabC (blkP_stable _ _) (stab1 (blkP_stable _ _))) (.cells zeroPdu 45 (0, 0)))
  clear hb
  go_wp2_with (refine wpList_agg HZ2q.out (stabC (blkP_stable _ _) (stab1 (blkP_stable _ _))) rfl (.tmp 7) (.tmp 29) 45 rfl zeroPdu rfl rfl sizePdu rfl rfl ?_; intro w4 hz; have HZ2 := hid hz.tail; clear hz HZ2q)
  refine (cNoTake _ (.pointer none) (fun y _ => cOkSnil y) 1).mono ?_
  rintro e w2 ⟨rfl, hb⟩
  have HZ3 := hid (HZ2.out.quiet (stabC (blkP_stable _ _) (stab1 (blkP_stable _ _))) hb)
  clear hb
  go_wp2_with fail
  refine (cNoTake _ (.pointer (some ⟨w1.heap.size, 0, none⟩)) (fun y hy => cOkSzero y _ (by rw [hy.cell (by have := HZ3.out; exact lt_z this)]; exact (Sts.boxCell HZ3.out 0 _ rfl).1)) 1).mono ?_
  rintro e w2 ⟨rfl, hb⟩
  have HZ4 := hid (HZ3.out.quiet (stabC (blkP_stable _ _) (stab1 (blkP_stable _ _))) hb)
  clear hb
  go_wp2_with fail
  refine (cNoSusp _ (.pointer none) (fun y _ => cOkSnil y) 1).mono ?_
  rintro e w2 ⟨rfl, hb⟩
  have HZ5 := hid (HZ4.out.quiet (stabC (blkP_stable _ _) (stab1 (blkP_stable _ _))) hb)
  clear hb
  go_wp2_with fail
  refine (cNoRes _ (.pointer (some ⟨w1.heap.size, 0, none⟩)) (fun y hy => cOkSzero y _ (by rw [hy.cell (by have := HZ5.out; exact lt_z this)]; exact (Sts.boxCell HZ5.out 0 _ rfl).1)) 1).mono ?_
  rintro e w2 ⟨rfl, hb⟩
  have HZ6 := hid (HZ5.out.quiet (stabC (blkP_stable _ _) (stab1 (blkP_stable _ _))) hb)
  clear hb
  go_wp2_with fail
  refine (cNoCan _ (.pointer none) (fun y _ => cOkSnil y)).mono ?_
  rintro e w2 ⟨rfl, hb⟩
  have HZ7 := hid (HZ6.out.quiet (stabC (blkP_stable _ _) (stab1 (blkP_stable _ _))) hb)
  clear hb
  go_wp2_with fail
  refine (cNoState _ (.pointer (some ⟨w1.heap.size, 0, none⟩)) (fun y hy => cOkSzero y _ (by rw [hy.cell (by have := HZ7.out; exact lt_z this)]; exact (Sts.boxCell HZ7.out 0 _ rfl).1))).mono ?_
  rintro e w2 ⟨rfl, hb⟩
  have HZ8 := hid (HZ7.out.quiet (stabC (blkP_stable _ _) (stab1 (blkP_stable _ _))) hb)
  clear hb
  go_wp2_with fail
  refine (cCodeSnil _).mono ?_
  rintro e w2 ⟨rfl, rfl⟩
  go_wp2_with fail
  refine (cNoClone _ (.pointer none) (fun y _ => cOkSnil y)).mono ?_
  rintro e w2 ⟨rfl, hb⟩
  have HZ9 := hid (HZ8.out.quiet (stabC (blkP_stable _ _) (stab1 (blkP_stable _ _))) hb)
  clear hb
  go_wp2_with fail
  refine (cNoClone _ (.pointer (some ⟨w1.heap.size, 0, none⟩)) (fun y hy => cOkSzero y _ (by rw [hy.cell (by have := HZ9.out; exact lt_z this)]; exact (Sts.boxCell HZ9.out 0 _ rfl).1))).mono ?_
  rintro e w2 ⟨rfl, hb⟩
  have HZA := hid ((HZ9.out.quiet (stabC (blkP_stable _ _) (stab1 (blkP_stable _ _))) hb).tail)
  have q0 := (Sts.boxCell HZA.out 0 _ rfl).1
  have q1 := (Sts.boxCell HZA.out 1 _ rfl).1
  have q2 := (Sts.boxCell HZA.out 2 _ rfl).1
  have q3 := (Sts.boxCell HZA.out 3 _ rfl).1
  have q4 := (Sts.boxCell HZA.out 4 _ rfl).1
  have q5 := (Sts.boxCell HZA.out 5 _ rfl).1
  have q6 := (Sts.boxCell HZA.out 6 _ rfl).1
  have q7 := (Sts.boxCell HZA.out 7 _ rfl).1
  have q8 := (Sts.boxCell HZA.out 8 _ rfl).1
  clear hb
  go_wp2_with fail
  clear HSM H0 H1 HZ0 HZ1 HZ2 HZ3 HZ4 HZ5 HZ6 HZ7 HZ8 HZ9 q0 q1 q2 q3 q4 q5 q6 q7 q8
  refine (cNewBad (stab1 (blkP_stable _ _)) src num cls name _ data chunk timeout retries HZA.out (RdsB.arg HD.out) hname HNB.out).mono ?_
  rintro e w5 ⟨rfl, h⟩
  have H2 := hid h
  clear h HZA
  have q0 := (Sts.boxCell H2.out 0 _ rfl).1; have q1 := (Sts.boxCell H2.out 1 _ rfl).1; have q2 := (Sts.boxCell H2.out 2 _ rfl).1; have q3 := (Sts.boxCell H2.out 3 _ rfl).1; have q4 := (Sts.boxCell H2.out 4 _ rfl).1; have q5 := (Sts.boxCell H2.out 5 _ rfl).1; have q6 := (Sts.boxCell H2.out 6 _ rfl).1; have q7 := (Sts.boxCell H2.out 7 _ rfl).1; have q8 := (Sts.boxCell H2.out 8 _ rfl).1
  go_wp2_with fail
  clear q0 q1 q2 q3 q4 q5 q6 q7 q8
  refine (HRN.out w5 da dc).mono ?_
  rintro e w6 ⟨rfl, hb3⟩
  have HX0 := hid ((H2.out.quiet (stab1 (blkP_stable _ _)) hb3).alloc (stab1 (blkP_stable _ _)) (.cells #[.int .i64 0, .int .i64 0, .int .i64 0, .string ⟨#[]⟩, .slice none 0 0, .int .i64 0, .int .i64 0, .int .i64 0, .int .i64 0, .int .i64 0, .int .i64 0, .int .i64 0, .int .i64 0, .bool false, .bool false, .bool false, .bool false, .bool false, .slice none 0 0, .int .i64 0] 38))
  clear hb3 H2
  go_wp2_with (first | (refine wpList_store_agg HX0.out (stab1 (blkP_stable _ _)) rfl (.tmp 11) (.tmp 104) 38 rfl #[.int .i64 0, .int .i64 0, .int .i64 0, .string ⟨#[]⟩, .slice none 0 0, .int .i64 0, .int .i64 0, .int .i64 0, .int .i64 0, .int .i64 0, .int .i64 0, .int .i64 0, .int .i64 0, .bool false, .bool false, .bool false, .bool false, .bool false, .slice none 0 0, .int .i64 0] rfl rfl size20 rfl (fun v hv => List.all_eq_true.1 (show (#[.int .i64 0, .int .i64 0, .int .i64 0, .string ⟨#[]⟩, .slice none 0 0, .int .i64 0, .int .i64 0, .int .i64 0, .int .i64 0, .int .i64 0, .int .i64 0, .int .i64 0, .int .i64 0, .bool false, .bool false, .bool false, .bool false, .bool false, .slice none 0 0, .int .i64 0].toList).all (fun v => v.oneCell') = true from rfl) v hv) (by kernel_rfl) ?_; intro w7 hZ; have HW := hid hZ; clear hZ HX0) | (go_at_call 14; refine (cLives27 _).mono ?_; rintro e w9 ⟨rfl, hb9⟩; have H9 := hid (HW.out.below.trans (hb9.mono HW.out.below.size)); clear hb9))
  go_ret
  exact ⟨rfl, H9.out⟩
theorem ldRef {W w : World} {l : List HProp} {b : Nat} {cs : Array Value} (hs : cs.size = 20) (h : Sts W (blkP b (.cells cs 38 (0, 0)) :: l) w) : (loadVar 38 ⟨b, 0, none⟩).run Try.prog w = .ok (.agg cs) w := by
  have hb : w.heap[b]? = some (.cells cs 38 (0, 0)) := by obtain ⟨F, hF⟩ := h.head; exact hF.1
  exact run_loadVar_row (P := Try.prog) w b 38 38 cs (0, 0) _ hb Try.underlying38 rfl (by rw [hs]; kernel_rfl)
theorem perm6 (A B C D E F : HProp) : ([A, B, C, D, E, F] : List HProp).Perm [E, A, D, B, C, F] :=
  (List.perm_middle (a := E) (l₁ := [A, B, C, D]) (l₂ := [F])).trans (((List.perm_middle (a := D) (l₁ := [B, C]) (l₂ := [F])).cons A).cons E)
theorem swap2 (A B C D : HProp) (l : List HProp) : (A :: B :: C :: D :: l).Perm (C :: D :: A :: B :: l) := by
  have h : ([A, B] ++ [C, D]).Perm ([C, D] ++ [A, B]) := List.perm_append_comm
  exact h.append_right l
set_option maxRecDepth 100000 in
set_option maxHeartbeats 16000000 in
theorem clones_ok (w : World) (src num cls chunk timeout retries : Int) (name : ByteArray) (vd vl : Value) (data : List Nat) (S : List Fil.Stp) (hd : RdB w vd data) (hS : StpsAt w vl S) (hsm : Fil.smallB name.size data.length S = true) (hb : Fil.newB src num cls name data.length chunk timeout retries = true) : Calls Try.prog 7 #[.agg #[.int .i64 src, .int .i64 num, .int .i64 cls, .string name, vd, .int .i64 chunk, .int .i64 timeout, .int .i64 retries, vl]] w fun e w' => e = .returned (.bool true) ∧ Below w.heap.size w w' := by
  obtain ⟨hname, hn, hlen, hall⟩ := small_stp hsm
  replace hname : name.size ≤ 1000000 := by omega
  replace hn : data.length < 100000000 := by omega
  have HALL := hid hall
  clear hall
  have hng := new_good src num cls name data chunk timeout retries hb hd.2
  obtain ⟨da, dc, hde⟩ := hd.1.eq
  rw [u8s_len] at hde
  subst hde
  obtain ⟨la, lc, hle, hx⟩ := hS.cells
  subst hle
  have hbw := (Below.refl w.heap.size w).alloc (Nat.le_refl _) (.cells #[.int .i64 src, .int .i64 num, .int .i64 cls, .string name, .slice da data.length dc, .int .i64 chunk, .int .i64 timeout, .int .i64 retries, .slice la S.length lc] 29)
  have hsmall := cSmall (w.alloc (.cells #[.int .i64 src, .int .i64 num, .int .i64 cls, .string name, .slice da data.length dc, .int .i64 chunk, .int .i64 timeout, .int .i64 retries, .slice la S.length lc] 29)) src num cls chunk timeout retries name _ _ data S (hd.below hbw) (hS.below hbw)
  have HSMB := hid hsm
  rw [hsm] at hsmall
  have HSM := hid hsmall
  have H0 := hid ((Sts.nil w).alloc stab0 (.cells #[.int .i64 src, .int .i64 num, .int .i64 cls, .string name, .slice da data.length dc, .int .i64 chunk, .int .i64 timeout, .int .i64 retries, .slice la S.length lc] 29))
  have HD := hid hd
  have HX := hid hx
  clear hsmall hbw hd hS hsm hx
  have hv : (Fil.headP src num cls name data.length).validB = true ∧ cfgB chunk timeout retries = true := by rw [newB_eq] at hb; simpa using hb
  have HV := hid hv
  have HNB := hid hb
  have HREG : Hid (Fil.Reg (newSrc src num cls name data chunk timeout retries)) := hid ⟨hng.1, hng.2, by show (0 : Int) ≤ 0; omega, by show (0 : Int) = 2 → _; omega⟩
  clear hv hb hng
  obtain ⟨n, hn2⟩ : ∃ n, n = S.length / 2 := ⟨_, rfl⟩
  have hq : ((S.length : Int)).tdiv 2 = (n : Int) := by rw [hn2, Int.tdiv_eq_ediv_of_nonneg (by omega)]; simp
  have hnl : n ≤ S.length := by omega
  clear hn2
  go_enter Try.func7, Try.ntmps7
  go_wp2_with fail
  refine HSM.out.mono ?_
  rintro e w1 ⟨rfl, hb1⟩
  have H1 := hid (H0.out.quiet (stab1 (blkP_stable _ _)) hb1)
  have HZ0 : Hid (Sts w [blkP w1.heap.size (.cells #[.bool false, .int .i64 0, .int .i64 0, .int .i64 0, .string ⟨#[]⟩, .slice none 0 0, .int .i64 0, .int .i64 0, .int .i64 0, .int .i64 0, .int .i64 0, .bool false, .bool false, .int .i64 0, .bool false, .slice none 0 0, .bool false, .int .i64 0, .int .i64 0, .bool false, .int .i64 0] 64 (0, 0)), blkP w.heap.size (.cells #[.int .i64 src, .int .i64 num, .int .i64 cls, .string name, .slice da data.length dc, .int .i64 chunk, .int .i64 timeout, .int .i64 retries, .slice la S.length lc] 29 (0, 0))] (w1.alloc (.cells #[.bool false, .int .i64 0, .int .i64 0, .int .i64 0, .string ⟨#[]⟩, .slice none 0 0, .int .i64 0, .int .i64 0, .int .i64 0, .int .i64 0, .int .i64 0, .bool false, .bool false, .int .i64 0, .bool false, .slice none 0 0, .bool false, .int .i64 0, .int .i64 0, .bool false, .int .i64 0] 64))) := hid ((H0.out.quiet (stab1 (blkP_stable _ _)) hb1).alloc (stab1 (blkP_stable _ _)) (.cells #[.bool false, .int .i64 0, .int .i64 0, .int .i64 0, .string ⟨#[]⟩, .slice none 0 0, .int .i64 0, .int .i64 0, .int .i64 0, .int .i64 0, .int .i64 0, .bool false, .bool false, .int .i64 0, .bool false, .slice none 0 0, .bool false, .int .i64 0, .int .i64 0, .bool false, .int .i64 0] 64 (0, 0)))
  clear hb1
  go_wp2_with fail
  refine (cNoNext _ (.pointer none) (fun y _ => cOkSnil y) 1).mono ?_
  rintro e w2 ⟨rfl, hb⟩
  have HZ1q : Hid (Sts w [blkP w2.heap.size (.cells zeroPdu 45 (0, 0)), blkP w1.heap.size (.cells #[.bool false, .int .i64 0, .int .i64 0, .int .i64 0, .string ⟨#[]⟩, .slice none 0 0, .int .i64 0, .int .i64 0, .int .i64 0, .int .i64 0, .int .i64 0, .bool false, .bool false, .int .i64 0, .bool false, .slice none 0 0, .bool false, .int .i64 0, .int .i64 0, .bool false, .int .i64 0] 64 (0, 0)), blkP w.heap.size (.cells #[.int .i64 src, .int .i64 num, .int .i64 cls, .string name, .slice da data.length dc, .int .i64 chunk, .int .i64 timeout, .int .i64 retries, .slice la S.length lc] 29 (0, 0))] (w2.alloc (.cells #[.int .i64 0, .int .i64 0, .int .i64 0, .int .i64 0, .string ⟨#[]⟩, .int .i64 0, .int .i64 0, .slice none 0 0, .int .u32 0, .int .i64 0, .slice none 0 0] 45))) := hid ((HZ0.out.quiet (stabC (blkP_stable _ _) (stab1 (blkP_stable _ _))) hb).alloc (stabC (blkP_stable _ _) (stab1 (blkP_stable _ _))) (.cells zeroPdu 45 (0, 0)))
  clear hb
  go_wp2_with (refine wpList_agg HZ1q.out (stabC (blkP_stable _ _) (stab1 (blkP_stable _ _))) rfl (.tmp 5) (.tmp 25) 45 rfl zeroPdu rfl rfl sizePdu rfl rfl ?_; intro w3 hz; have HZ1 := hid hz.tail; clear hz HZ1q)
  refine (cNoNext _ (.pointer (some ⟨w1.heap.size, 0, none⟩)) (fun y hy => cOkSzero y _ (by rw [hy.cell (by have := HZ1.out; exact lt_z this)]; exact (Sts.boxCell HZ1.out 0 _ rfl).1)) 1).mono ?_
  rintro e w2 ⟨rfl, hb⟩
  have HZ2q : Hid (Sts w [blkP w2.heap.size (.cells zeroPdu 45 (0, 0)), blkP w1.heap.size (.cells #[.bool false, .int .i64 0, .int .i64 0, .int .i64 0, .string ⟨#[]⟩, .slice none 0 0, .int .i64 0, .int .i64 0, .int .i64 0, .int .i64 0, .int .i64 0, .bool false, .bool false, .int .i64 0, .bool false, .slice none 0 0, .bool false, .int .i64 0, .int .i64 0, .bool false, .int .i64 0] 64 (0, 0)), blkP w.heap.size (.cells #[.int .i64 src, .int .i64 num, .int .i64 cls, .string name, .slice da data.length dc, .int .i64 chunk, .int .i64 timeout, .int .i64 retries, .slice la S.length lc] 29 (0, 0))] (w2.alloc (.cells #[.int .i64 0, .int .i64 0, .int .i64 0, .int .i64 0, .string ⟨#[]⟩, .int .i64 0, .int .i64 0, .slice none 0 0, .int .u32 0, .int .i64 0, .slice none 0 0] 45))) := hid ((HZ1.out.quiet (stabC (blkP_stable _ _) (stab1 (blkP_stable _ _))) hb).alloc (stabC (blkP_stable _ _) (stab1 (blkP_stable _ _))) (.cells zeroPdu 45 (0, 0)))
  clear hb
  go_wp2_with (refine wpList_agg HZ2q.out (stabC (blkP_stable _ _) (stab1 (blkP_stable _ _))) rfl (.tmp 7) (.tmp 29) 45 rfl zeroPdu rfl rfl sizePdu rfl rfl ?_; intro w4 hz; have HZ2 := hid hz.tail; clear hz HZ2q)
  refine (cNoTake _ (.pointer none) (fun y _ => cOkSnil y) 1).mono ?_
  rintro e w2 ⟨rfl, hb⟩
  have HZ3 := hid (HZ2.out.quiet (stabC (blkP_stable _ _) (stab1 (blkP_stable _ _))) hb)
  clear hb
  go_wp2_with fail
  refine (cNoTake _ (.pointer (some ⟨w1.heap.size, 0, none⟩)) (fun y hy => cOkSzero y _ (by rw [hy.cell (by have := HZ3.out; exact lt_z this)]; exact (Sts.boxCell HZ3.out 0 _ rfl).1)) 1).mono ?_
  rintro e w2 ⟨rfl, hb⟩
  have HZ4 := hid (HZ3.out.quiet (stabC (blkP_stable _ _) (stab1 (blkP_stable _ _))) hb)
  clear hb
  go_wp2_with fail
  refine (cNoSusp _ (.pointer none) (fun y _ => cOkSnil y) 1).mono ?_
  rintro e w2 ⟨rfl, hb⟩
  have HZ5 := hid (HZ4.out.quiet (stabC (blkP_stable _ _) (stab1 (blkP_stable _ _))) hb)
  clear hb
  go_wp2_with fail
  refine (cNoRes _ (.pointer (some ⟨w1.heap.size, 0, none⟩)) (fun y hy => cOkSzero y _ (by rw [hy.cell (by have := HZ5.out; exact lt_z this)]; exact (Sts.boxCell HZ5.out 0 _ rfl).1)) 1).mono ?_
  rintro e w2 ⟨rfl, hb⟩
  have HZ6 := hid (HZ5.out.quiet (stabC (blkP_stable _ _) (stab1 (blkP_stable _ _))) hb)
  clear hb
  go_wp2_with fail
  refine (cNoCan _ (.pointer none) (fun y _ => cOkSnil y)).mono ?_
  rintro e w2 ⟨rfl, hb⟩
  have HZ7 := hid (HZ6.out.quiet (stabC (blkP_stable _ _) (stab1 (blkP_stable _ _))) hb)
  clear hb
  go_wp2_with fail
  refine (cNoState _ (.pointer (some ⟨w1.heap.size, 0, none⟩)) (fun y hy => cOkSzero y _ (by rw [hy.cell (by have := HZ7.out; exact lt_z this)]; exact (Sts.boxCell HZ7.out 0 _ rfl).1))).mono ?_
  rintro e w2 ⟨rfl, hb⟩
  have HZ8 := hid (HZ7.out.quiet (stabC (blkP_stable _ _) (stab1 (blkP_stable _ _))) hb)
  clear hb
  go_wp2_with fail
  refine (cCodeSnil _).mono ?_
  rintro e w2 ⟨rfl, rfl⟩
  go_wp2_with fail
  refine (cNoClone _ (.pointer none) (fun y _ => cOkSnil y)).mono ?_
  rintro e w2 ⟨rfl, hb⟩
  have HZ9 := hid (HZ8.out.quiet (stabC (blkP_stable _ _) (stab1 (blkP_stable _ _))) hb)
  clear hb
  go_wp2_with fail
  refine (cNoClone _ (.pointer (some ⟨w1.heap.size, 0, none⟩)) (fun y hy => cOkSzero y _ (by rw [hy.cell (by have := HZ9.out; exact lt_z this)]; exact (Sts.boxCell HZ9.out 0 _ rfl).1))).mono ?_
  rintro e w2 ⟨rfl, hb⟩
  have HZA := hid ((HZ9.out.quiet (stabC (blkP_stable _ _) (stab1 (blkP_stable _ _))) hb).tail)
  have q0 := (Sts.boxCell HZA.out 0 _ rfl).1
  have q1 := (Sts.boxCell HZA.out 1 _ rfl).1
  have q2 := (Sts.boxCell HZA.out 2 _ rfl).1
  have q3 := (Sts.boxCell HZA.out 3 _ rfl).1
  have q4 := (Sts.boxCell HZA.out 4 _ rfl).1
  have q5 := (Sts.boxCell HZA.out 5 _ rfl).1
  have q6 := (Sts.boxCell HZA.out 6 _ rfl).1
  have q7 := (Sts.boxCell HZA.out 7 _ rfl).1
  have q8 := (Sts.boxCell HZA.out 8 _ rfl).1
  clear hb
  go_wp2_with fail
  clear HSM H0 H1 HZ0 HZ1 HZ2 HZ3 HZ4 HZ5 HZ6 HZ7 HZ8 HZ9 q0 q1 q2 q3 q4 q5 q6 q7 q8
  refine (cNewOk (stab1 (blkP_stable _ _)) src num cls name _ data chunk timeout retries HZA.out (RdsB.arg HD.out) hname hn HNB.out).mono ?_
  rintro e w5 ⟨q1', rfl, h⟩
  have H2 := hid h
  clear h HZA
  have q0 := (Sts.boxCell H2.out.swap 0 _ rfl).1; have q1 := (Sts.boxCell H2.out.swap 1 _ rfl).1; have q2 := (Sts.boxCell H2.out.swap 2 _ rfl).1; have q3 := (Sts.boxCell H2.out.swap 3 _ rfl).1; have q4 := (Sts.boxCell H2.out.swap 4 _ rfl).1; have q5 := (Sts.boxCell H2.out.swap 5 _ rfl).1; have q6 := (Sts.boxCell H2.out.swap 6 _ rfl).1; have q7 := (Sts.boxCell H2.out.swap 7 _ rfl).1; have q8 := (Sts.boxCell H2.out.swap 8 _ rfl).1
  go_wp2_with fail
  clear q0 q1 q2 q3 q4 q5 q6 q7 q8
  refine (cRefNewOk w5 src num cls chunk timeout retries name da data.length dc hname HV.out.1 HV.out.2).mono ?_
  rintro e w6 ⟨rfl, hb3⟩
  have HX0 := hid ((H2.out.quiet (stabC (srcP_stable _ _) (stab1 (blkP_stable _ _))) hb3).alloc (stabC (srcP_stable _ _) (stab1 (blkP_stable _ _))) (.cells #[.int .i64 0, .int .i64 0, .int .i64 0, .string ⟨#[]⟩, .slice none 0 0, .int .i64 0, .int .i64 0, .int .i64 0, .int .i64 0, .int .i64 0, .int .i64 0, .int .i64 0, .int .i64 0, .bool false, .bool false, .bool false, .bool false, .bool false, .slice none 0 0, .int .i64 0] 38))
  generalize hbx : w6.heap.size = bx at *
  clear hb3 H2
  go_wp2_with (first | (refine wpList_store_agg HX0.out (stabC (srcP_stable _ _) (stab1 (blkP_stable _ _))) rfl (.tmp 11) (.tmp 104) 38 rfl #[.int .i64 src, .int .i64 num, .int .i64 cls, .string name, .slice da data.length dc, .int .i64 chunk, .int .i64 timeout, .int .i64 retries, .int .i64 1, .int .i64 0, .int .i64 0, .int .i64 0, .int .i64 0, .bool false, .bool false, .bool false, .bool false, .bool false, .slice none 0 0, .int .i64 0] rfl rfl size20 rfl (fun v hv => List.all_eq_true.1 (show (#[.int .i64 src, .int .i64 num, .int .i64 cls, .string name, .slice da data.length dc, .int .i64 chunk, .int .i64 timeout, .int .i64 retries, .int .i64 1, .int .i64 0, .int .i64 0, .int .i64 0, .int .i64 0, .bool false, .bool false, .bool false, .bool false, .bool false, .slice none 0 0, .int .i64 0].toList).all (fun v => v.oneCell') = true from rfl) v hv) (by kernel_rfl) ?_; intro w7 hZ; have HW := hid (Sts.newRef hZ).swap; have q8 := (Sts.boxCell HW.out.tail.tail 8 _ rfl).1; clear hZ HX0))
  clear hbx q8
  go_loopw [14] (fun i wr => ∃ (k : Nat) (s : Fil.Src), k ≤ n ∧ i = .int .i64 k ∧ Fil.Reg s ∧ s.data = data ∧ Sts w [srcP q1' s, refP zn bx s (.slice da data.length dc), blkP w.heap.size (.cells #[.int .i64 src, .int .i64 num, .int .i64 cls, .string name, .slice da data.length dc, .int .i64 chunk, .int .i64 timeout, .int .i64 retries, .slice la S.length lc] 29 (0, 0))] wr) (fun i _ => n - (intOf i).toNat)
  case atStart => exact ⟨0, _, by omega, rfl, HREG.out, rfl, HW.out⟩
  case round =>
    obtain ⟨k, s, hk, rfl, hreg, hdat, hS⟩ := hrel
    have HS := hid hS
    have HRG := hid hreg
    have HDT := hid hdat
    have q8 := (Sts.boxCell hS.tail.tail 8 _ rfl).1
    clear hS hreg hdat HW
    by_cases hlt : k < n
    · skip
      obtain ⟨b, off, hab, hb, hst, hpr⟩ := HX.out k (by omega)
      have hsb := HALL.out _ (List.getElem_mem (show k < S.length by omega))
      have HPR := hid hpr
      have hst' : ∀ y, Below w.heap.size w y → ∀ j x, (stpC (S[k]'(by omega)))[j]? = some x → y.cell? ⟨b, off + k * 13 + j, none⟩ = some x := fun y hy j x hx => by
        rw [hy.cell hb]
        refine hst j x ?_
        rw [← hx]
        show _ = (stpC (S[k]'(by omega)))[j]?
        rw [← Array.getElem?_toList]
        rfl
      generalize S[k]'(by omega) = t at *
      have HST := hid hst'
      have HSB := hid hsb
      clear hst hst' hsb hb hpr
      obtain ⟨s2, hs2⟩ : ∃ s2, s2 = s.stepV t := ⟨_, rfl⟩
      have hreg2 : Fil.Reg s2 := by rw [hs2]; exact HRG.out.stepV t
      have hdat2 : s2.data = data := by rw [hs2, Fil.stepV_data]; exact HDT.out
      have hstep := cStep (stab1 (blkP_stable _ _)) zn q1' bx s da dc (by rw [HDT.out]; exact HS.out) HRG.out t (by rw [HDT.out]; exact HD.out) (fun A y _ => zn_rd y) HPR.out (by have := HSB.out.1; omega) (by have := HSB.out.2.1; omega) (by have := HSB.out.2.2; omega)
      rw [← hs2, HDT.out] at hstep
      have HSTEP := hid hstep
      have HRG2 := hid hreg2
      have HDT2 := hid hdat2
      clear hstep hs2 hreg2 hdat2
      have p0 : wr.cell? ⟨b, off + k * 13, none⟩ = some (.int .u8 t.kind) := HST.out wr HS.out.below 0 _ rfl
      have p1 : wr.cell? ⟨b, off + k * 13 + 1, none⟩ = some (.int .i64 t.p.kind) := HST.out wr HS.out.below 1 _ rfl
      have p2 : wr.cell? ⟨b, off + k * 13 + 2, none⟩ = some (.int .i64 t.p.src) := HST.out wr HS.out.below 2 _ rfl
      have p3 : wr.cell? ⟨b, off + k * 13 + 3, none⟩ = some (.int .i64 t.p.num) := HST.out wr HS.out.below 3 _ rfl
      have p4 : wr.cell? ⟨b, off + k * 13 + 4, none⟩ = some (.int .i64 t.p.cls) := HST.out wr HS.out.below 4 _ rfl
      have p5 : wr.cell? ⟨b, off + k * 13 + 5, none⟩ = some (.string t.p.name) := HST.out wr HS.out.below 5 _ rfl
      have p6 : wr.cell? ⟨b, off + k * 13 + 6, none⟩ = some (.int .i64 t.p.size) := HST.out wr HS.out.below 6 _ rfl
      have p7 : wr.cell? ⟨b, off + k * 13 + 7, none⟩ = some (.int .i64 t.p.off) := HST.out wr HS.out.below 7 _ rfl
      have p8 : wr.cell? ⟨b, off + k * 13 + 8, none⟩ = some (.slice t.p.da t.p.data.length t.p.dc) := HST.out wr HS.out.below 8 _ rfl
      have p9 : wr.cell? ⟨b, off + k * 13 + 9, none⟩ = some (.int .u32 (t.p.sum : Nat)) := HST.out wr HS.out.below 9 _ rfl
      have p10 : wr.cell? ⟨b, off + k * 13 + 10, none⟩ = some (.int .i64 t.p.code) := HST.out wr HS.out.below 10 _ rfl
      have p11 : wr.cell? ⟨b, off + k * 13 + 11, none⟩ = some (.slice t.p.ga t.p.gaps.length t.p.gc) := HST.out wr HS.out.below 11 _ rfl
      have p12 : wr.cell? ⟨b, off + k * 13 + 12, none⟩ = some (.int .i64 t.now) := HST.out wr HS.out.below 12 _ rfl
      rw [hab] at q8
      have HAB := hid hab
      clear hab
      go_wp2_with (first | (go_at_call 27; refine HSTEP.out.mono ?_; rintro e w7 ⟨rfl, hw⟩; have HZ := hid hw; clear hw))
      go_roundw
      case rel => exact ⟨k + 1, s2, by omega, by go_num, HRG2.out, HDT2.out, HZ.out⟩
      case measure => simp [intOf]; omega
    · obtain rfl : k = n := by omega
      have hgd := HRG.out.good
      have HCL := hid (cClone (stabC (refP_stable _ _ _ _) (stab1 (blkP_stable _ _))) q1' s HS.out (by have := hgd.n; omega) hgd.b (by have := hgd.wl; omega))
      clear hgd q8
      go_wp2_with (first | (go_at_call 31; refine HCL.out.mono ?_; rintro e w8 ⟨c, rfl, hw⟩; obtain ⟨wv, h⟩ := Sts.openRef hw.third; obtain ⟨wa, wc, hwe⟩ : ∃ a c, wv = .slice a s.wanted.length c := (by obtain ⟨F, hF⟩ := h.tail.head; exact (ownW.rd hF (show RdR w8 zn.1 zn.2 from ⟨none, 0, rfl, ⟨Nat.le_refl _, Nat.zero_le _⟩, fun j hj => absurd hj (by simp [zn])⟩)).eq); subst hwe; have HO := hid h; have HA2 : Hid (Sts w [blkP w8.heap.size (.cells #[.int .i64 0, .int .i64 0, .int .i64 0, .string ⟨#[]⟩, .slice none 0 0, .int .i64 0, .int .i64 0, .int .i64 0, .int .i64 0, .int .i64 0, .int .i64 0, .int .i64 0, .int .i64 0, .bool false, .bool false, .bool false, .bool false, .bool false, .slice none 0 0, .int .i64 0] 38 (0, 0)), blkP bx (.cells (s.rcs (.slice da data.length dc) (.slice wa s.wanted.length wc)) 38 (0, 0)), ownW zn (.slice wa s.wanted.length wc) s.wanted, srcP c s, srcP q1' s, blkP w.heap.size (.cells #[.int .i64 src, .int .i64 num, .int .i64 cls, .string name, .slice da data.length dc, .int .i64 chunk, .int .i64 timeout, .int .i64 retries, .slice la S.length lc] 29 (0, 0))] (w8.alloc (.cells #[.int .i64 0, .int .i64 0, .int .i64 0, .string ⟨#[]⟩, .slice none 0 0, .int .i64 0, .int .i64 0, .int .i64 0, .int .i64 0, .int .i64 0, .int .i64 0, .int .i64 0, .int .i64 0, .bool false, .bool false, .bool false, .bool false, .bool false, .slice none 0 0, .int .i64 0] 38))) := hid (h.alloc (stabC (blkP_stable _ _) (stabC (ownW_stable _ _ _) (stabC (srcP_stable _ _) (stabC (srcP_stable _ _) (stab1 (blkP_stable _ _)))))) _); clear hw h) | (refine wpList_ld rfl (.tmp 11) 38 rfl rfl _ (ldRef rfl HO.out) ?_) | (refine wpList_agg HA2.out (stabC (blkP_stable _ _) (stabC (ownW_stable _ _ _) (stabC (srcP_stable _ _) (stabC (srcP_stable _ _) (stab1 (blkP_stable _ _)))))) rfl (.tmp 16) (.tmp 128) 38 rfl (s.rcs (.slice da data.length dc) (.slice wa s.wanted.length wc)) rfl rfl size20 rfl rfl ?_; intro w9 hz; have q8 := (Sts.boxCell hz.tail.tail.tail.tail.tail 8 _ rfl).1; have e1 := Sts.pair hz; have e2 := Sts.pair e1.swap; have HP6 := hid (e2.perm (perm6 _ _ _ _ _ _)); clear e1 e2; clear hz HA2 HO))
      obtain ⟨wv, hwv⟩ : ∃ wv, wv = Value.slice wa s.wanted.length wc := ⟨_, rfl⟩
      rw [← hwv] at HP6
      clear hwv
      generalize w8.heap.size = b2 at *
      obtain ⟨wsh, hwsh⟩ : ∃ wsh, wsh = s.wanted := ⟨_, rfl⟩
      rw [← hwsh] at HP6
      clear hwsh HCL q8
      go_loopw [17] (fun i wr => ∃ (k : Nat) (s1 s2 : Fil.Src), k ≤ S.length ∧ i = .int .i64 k ∧ Fil.Reg s1 ∧ s1.data = data ∧ Fil.Reg s2 ∧ s2.data = data ∧ Sts w [srcP q1' s1, refP (wv, wsh) bx s1 (.slice da data.length dc), srcP c s2, refP (wv, wsh) b2 s2 (.slice da data.length dc), ownW zn wv wsh, blkP w.heap.size (.cells #[.int .i64 src, .int .i64 num, .int .i64 cls, .string name, .slice da data.length dc, .int .i64 chunk, .int .i64 timeout, .int .i64 retries, .slice la S.length lc] 29 (0, 0))] wr) (fun i _ => S.length - (intOf i).toNat)
      case atStart => exact ⟨k, s, s, by omega, rfl, HRG.out, HDT.out, HRG.out, HDT.out, HP6.out⟩
      case round =>
        clear HP6 HRG HDT HS
        obtain ⟨k, s1, s2, hk, rfl, hreg1, hdat1, hreg2, hdat2, hS⟩ := hrel
        have HS := hid hS
        have HRG := hid hreg1
        have HDT := hid hdat1
        have HRH := hid hreg2
        have HDU := hid hdat2
        have q8 := (Sts.boxCell hS.tail.tail.tail.tail.tail 8 _ rfl).1
        clear hS hreg1 hdat1 hreg2 hdat2
        by_cases hlt : k < S.length
        · rcases Nat.mod_two_eq_zero_or_one k with hm | hm
          · have hmt : (k : Int).tmod 2 = 0 := by rw [Int.tmod_eq_emod_of_nonneg (by omega)]; omega
            clear hm
            obtain ⟨b, off, hab, hb, hst, hpr⟩ := HX.out k (by omega)
            have hsb := HALL.out _ (List.getElem_mem (show k < S.length by omega))
            have HPR := hid hpr
            have hst' : ∀ y, Below w.heap.size w y → ∀ j x, (stpC (S[k]'(by omega)))[j]? = some x → y.cell? ⟨b, off + k * 13 + j, none⟩ = some x := fun y hy j x hx => by
              rw [hy.cell hb]
              refine hst j x ?_
              rw [← hx]
              show _ = (stpC (S[k]'(by omega)))[j]?
              rw [← Array.getElem?_toList]
              rfl
            generalize S[k]'(by omega) = t at *
            have HST := hid hst'
            have HSB := hid hsb
            clear hst hst' hsb hb hpr
            obtain ⟨s3, hs2⟩ : ∃ s3, s3 = s1.stepV t := ⟨_, rfl⟩
            have hreg2 : Fil.Reg s3 := by rw [hs2]; exact HRG.out.stepV t
            have hdat2 : s3.data = data := by rw [hs2, Fil.stepV_data]; exact HDT.out
            have hstep := cStep (stabC (srcP_stable _ _) (stabC (refP_stable _ _ _ _) (stabC (ownW_stable _ _ _) (stab1 (blkP_stable _ _))))) (wv, wsh) q1' bx s1 da dc (by rw [HDT.out]; exact HS.out) HRG.out t (by rw [HDT.out]; exact HD.out) (fun A y hy => by obtain ⟨F, hF⟩ := hy.tail.tail.tail.head; exact ownW.rd hF (zn_rd y)) HPR.out (by have := HSB.out.1; omega) (by have := HSB.out.2.1; omega) (by have := HSB.out.2.2; omega)
            rw [← hs2, HDT.out] at hstep
            have HSTEP := hid hstep
            have HRG2 := hid hreg2
            have HDT2 := hid hdat2
            clear hstep hs2 hreg2 hdat2
            have p0 : wr.cell? ⟨b, off + k * 13, none⟩ = some (.int .u8 t.kind) := HST.out wr HS.out.below 0 _ rfl
            have p1 : wr.cell? ⟨b, off + k * 13 + 1, none⟩ = some (.int .i64 t.p.kind) := HST.out wr HS.out.below 1 _ rfl
            have p2 : wr.cell? ⟨b, off + k * 13 + 2, none⟩ = some (.int .i64 t.p.src) := HST.out wr HS.out.below 2 _ rfl
            have p3 : wr.cell? ⟨b, off + k * 13 + 3, none⟩ = some (.int .i64 t.p.num) := HST.out wr HS.out.below 3 _ rfl
            have p4 : wr.cell? ⟨b, off + k * 13 + 4, none⟩ = some (.int .i64 t.p.cls) := HST.out wr HS.out.below 4 _ rfl
            have p5 : wr.cell? ⟨b, off + k * 13 + 5, none⟩ = some (.string t.p.name) := HST.out wr HS.out.below 5 _ rfl
            have p6 : wr.cell? ⟨b, off + k * 13 + 6, none⟩ = some (.int .i64 t.p.size) := HST.out wr HS.out.below 6 _ rfl
            have p7 : wr.cell? ⟨b, off + k * 13 + 7, none⟩ = some (.int .i64 t.p.off) := HST.out wr HS.out.below 7 _ rfl
            have p8 : wr.cell? ⟨b, off + k * 13 + 8, none⟩ = some (.slice t.p.da t.p.data.length t.p.dc) := HST.out wr HS.out.below 8 _ rfl
            have p9 : wr.cell? ⟨b, off + k * 13 + 9, none⟩ = some (.int .u32 (t.p.sum : Nat)) := HST.out wr HS.out.below 9 _ rfl
            have p10 : wr.cell? ⟨b, off + k * 13 + 10, none⟩ = some (.int .i64 t.p.code) := HST.out wr HS.out.below 10 _ rfl
            have p11 : wr.cell? ⟨b, off + k * 13 + 11, none⟩ = some (.slice t.p.ga t.p.gaps.length t.p.gc) := HST.out wr HS.out.below 11 _ rfl
            have p12 : wr.cell? ⟨b, off + k * 13 + 12, none⟩ = some (.int .i64 t.now) := HST.out wr HS.out.below 12 _ rfl
            rw [hab] at q8
            have HAB := hid hab
            clear hab
            go_wp2_with (first | (go_at_call 27; refine HSTEP.out.mono ?_; rintro e w7 ⟨rfl, hw⟩; have HZ := hid hw; clear hw))
            go_roundw
            case rel => exact ⟨k + 1, s3, s2, by omega, by go_num, HRG2.out, HDT2.out, HRH.out, HDU.out, HZ.out⟩
            case measure => simp [intOf]; omega
          · have hmt : (k : Int).tmod 2 = 1 := by rw [Int.tmod_eq_emod_of_nonneg (by omega)]; omega
            clear hm
            obtain ⟨b, off, hab, hb, hst, hpr⟩ := HX.out k (by omega)
            have hsb := HALL.out _ (List.getElem_mem (show k < S.length by omega))
            have HPR := hid hpr
            have hst' : ∀ y, Below w.heap.size w y → ∀ j x, (stpC (S[k]'(by omega)))[j]? = some x → y.cell? ⟨b, off + k * 13 + j, none⟩ = some x := fun y hy j x hx => by
              rw [hy.cell hb]
              refine hst j x ?_
              rw [← hx]
              show _ = (stpC (S[k]'(by omega)))[j]?
              rw [← Array.getElem?_toList]
              rfl
            generalize S[k]'(by omega) = t at *
            have HST := hid hst'
            have HSB := hid hsb
            clear hst hst' hsb hb hpr
            obtain ⟨s3, hs2⟩ : ∃ s3, s3 = s2.stepV t := ⟨_, rfl⟩
            have hreg2 : Fil.Reg s3 := by rw [hs2]; exact HRH.out.stepV t
            have hdat2 : s3.data = data := by rw [hs2, Fil.stepV_data]; exact HDU.out
            have hstep := cStep (stabC (srcP_stable _ _) (stabC (refP_stable _ _ _ _) (stabC (ownW_stable _ _ _) (stab1 (blkP_stable _ _))))) (wv, wsh) c b2 s2 da dc (by rw [HDU.out]; exact HS.out.perm (swap2 _ _ _ _ _)) HRH.out t (by rw [HDU.out]; exact HD.out) (fun A y hy => by obtain ⟨F, hF⟩ := hy.tail.tail.tail.head; exact ownW.rd hF (zn_rd y)) HPR.out (by have := HSB.out.1; omega) (by have := HSB.out.2.1; omega) (by have := HSB.out.2.2; omega)
            rw [← hs2, HDU.out] at hstep
            have HSTEP := hid hstep
            have HRG2 := hid hreg2
            have HDT2 := hid hdat2
            clear hstep hs2 hreg2 hdat2
            have p0 : wr.cell? ⟨b, off + k * 13, none⟩ = some (.int .u8 t.kind) := HST.out wr HS.out.below 0 _ rfl
            have p1 : wr.cell? ⟨b, off + k * 13 + 1, none⟩ = some (.int .i64 t.p.kind) := HST.out wr HS.out.below 1 _ rfl
            have p2 : wr.cell? ⟨b, off + k * 13 + 2, none⟩ = some (.int .i64 t.p.src) := HST.out wr HS.out.below 2 _ rfl
            have p3 : wr.cell? ⟨b, off + k * 13 + 3, none⟩ = some (.int .i64 t.p.num) := HST.out wr HS.out.below 3 _ rfl
            have p4 : wr.cell? ⟨b, off + k * 13 + 4, none⟩ = some (.int .i64 t.p.cls) := HST.out wr HS.out.below 4 _ rfl
            have p5 : wr.cell? ⟨b, off + k * 13 + 5, none⟩ = some (.string t.p.name) := HST.out wr HS.out.below 5 _ rfl
            have p6 : wr.cell? ⟨b, off + k * 13 + 6, none⟩ = some (.int .i64 t.p.size) := HST.out wr HS.out.below 6 _ rfl
            have p7 : wr.cell? ⟨b, off + k * 13 + 7, none⟩ = some (.int .i64 t.p.off) := HST.out wr HS.out.below 7 _ rfl
            have p8 : wr.cell? ⟨b, off + k * 13 + 8, none⟩ = some (.slice t.p.da t.p.data.length t.p.dc) := HST.out wr HS.out.below 8 _ rfl
            have p9 : wr.cell? ⟨b, off + k * 13 + 9, none⟩ = some (.int .u32 (t.p.sum : Nat)) := HST.out wr HS.out.below 9 _ rfl
            have p10 : wr.cell? ⟨b, off + k * 13 + 10, none⟩ = some (.int .i64 t.p.code) := HST.out wr HS.out.below 10 _ rfl
            have p11 : wr.cell? ⟨b, off + k * 13 + 11, none⟩ = some (.slice t.p.ga t.p.gaps.length t.p.gc) := HST.out wr HS.out.below 11 _ rfl
            have p12 : wr.cell? ⟨b, off + k * 13 + 12, none⟩ = some (.int .i64 t.now) := HST.out wr HS.out.below 12 _ rfl
            rw [hab] at q8
            have HAB := hid hab
            clear hab
            go_wp2_with (first | (go_at_call 27; refine HSTEP.out.mono ?_; rintro e w7 ⟨rfl, hw⟩; have HZ := hid (hw.perm (swap2 _ _ _ _ _)); clear hw))
            go_roundw
            case rel => exact ⟨k + 1, s1, s3, by omega, by go_num, HRG.out, HDT.out, HRG2.out, HDT2.out, HZ.out⟩
            case measure => simp [intOf]; omega
        · obtain rfl : k = S.length := by omega
          have HT1 := hid (cStateS q1' s1 HS.out)
          have HT2 := hid (cStateS c s2 (HS.out.perm (swap2 _ _ _ _ _)))
          have HT3 := hid (cRState (wv, wsh) bx s1 _ HS.out.swap HRG.out.ph)
          have HT4 := hid (cRState (wv, wsh) b2 s2 _ (HS.out.perm (swap2 _ _ _ _ _)).swap HRH.out.ph)
          go_wp2_with fail
          refine HT1.out.mono ?_
          rintro e w7 ⟨rfl, rfl⟩
          go_wp2_with fail
          refine HT3.out.mono ?_
          rintro e w7 ⟨rfl, rfl⟩
          go_wp2_with fail
          refine HT2.out.mono ?_
          rintro e w7 ⟨rfl, rfl⟩
          go_wp2_with fail
          refine HT4.out.mono ?_
          rintro e w7 ⟨rfl, rfl⟩
          go_wp2_with fail
          refine (cLives27 _).mono ?_
          rintro e w9 ⟨rfl, hb9⟩
          have H9 := hid (HS.out.below.trans (hb9.mono HS.out.below.size))
          clear hb9
          go_wp2_with fail
          go_ret
          exact ⟨rfl, H9.out⟩
theorem clones_all (w : World) (src num cls chunk timeout retries : Int) (name : ByteArray) (vd vl : Value) (data : List Nat) (S : List Fil.Stp) (hd : RdB w vd data) (hS : StpsAt w vl S) : Calls Try.prog 7 #[.agg #[.int .i64 src, .int .i64 num, .int .i64 cls, .string name, vd, .int .i64 chunk, .int .i64 timeout, .int .i64 retries, vl]] w fun e w' => e = .returned (.bool true) ∧ Below w.heap.size w w' := by
  cases hsm : Fil.smallB name.size data.length S with
  | false => exact clones_big w src num cls chunk timeout retries name vd vl data S hd hS hsm
  | true =>
    cases hb : Fil.newB src num cls name data.length chunk timeout retries with
    | false => exact clones_bad w src num cls chunk timeout retries name vd vl data S hd hS hsm hb
    | true => exact clones_ok w src num cls chunk timeout retries name vd vl data S hd hS hsm hb
end Go.Proofs.Ytfjadhkhmhnccaa
