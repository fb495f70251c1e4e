/- SourceOrder: the walk where the class is 1. -/
import Derived.Test.YtfjadhkhmhnccaaSrcOrdS
set_option linter.unusedVariables false
set_option linter.unusedSimpArgs false
namespace Go.Proofs.Ytfjadhkhmhnccaa
open Go.RowKit Go.Proofs.Num Go.ChangeShapes
set_option maxRecDepth 100000 in
set_option maxHeartbeats 8000000 in
theorem order_main1 (w : World) (src num timeout retries : Int) (c : Nat) (name : ByteArray) (vd vl : Value) (data : List Nat) (S : List Fil.Stp) (hd : RdB w vd data) (hS : StpsAt w vl S) (hsm : Fil.smallB name.size data.length S = true) (hname : name.size ≤ 1000000) (hb : Fil.newB src num 1 name data.length (c : Int) timeout retries = true) :
    Calls Try.prog 4 #[.agg #[.int .i64 src, .int .i64 num, .int .i64 1, .string name, vd, .int .i64 (c : Int), .int .i64 timeout, .int .i64 retries, vl]] w fun e w' => e = .returned (.bool true) ∧ Below w.heap.size w w' := by
  obtain ⟨hG, -⟩ := new_good src num 1 name data (c : Int) timeout retries hb hd.2
  have hn6 : data.length ≤ 65536 := hG.n
  have hc1 : 1 ≤ c ∧ c ≤ 512 := by have := hG.c; have e : (newSrc src num 1 name data (c : Int) timeout retries).chunk = (c : Int) := rfl; rw [e] at this; omega
  have hto : 1 ≤ timeout := hG.to.1
  obtain ⟨da, dc, hde, hcap, hx⟩ := hd.1
  rw [u8s_len] at hde hcap
  subst hde
  clear hx
  have HD := hid hd
  have hG1 : Fil.Good (ordS src num 1 name data (c : Int) timeout retries 0) := by have h := hG.nextV 0; rw [ord_head] at h; exact h
  have HGk : Hid (∀ k, Fil.Good (ordS src num 1 name data (c : Int) timeout retries k)) := hid fun k => ⟨hG1.n, hG1.b, hG1.c, hG1.to, hG1.re, hG1.nw, hG1.ti, hG1.tr, Int.natCast_nonneg _, hG1.w, hG1.wv⟩
  have HGE : Hid (Fil.Good (ordS src num 1 name data (c : Int) timeout retries data.length).eofV) := hid (by have h := (HGk.out data.length).nextV 0; rw [ord_eof] at h; exact h)
  have HG := hid hG
  have HNB := hid hb
  generalize hnn : data.length = n at *
  have HNN := hid hnn
  have hbw := (Below.refl w.heap.size w).alloc (Nat.le_refl _) (.cells #[.int .i64 src, .int .i64 num, .int .i64 1, .string name, .slice da n dc, .int .i64 (c : Int), .int .i64 timeout, .int .i64 retries, vl] 29)
  have hsmall := cSmall (w.alloc (.cells #[.int .i64 src, .int .i64 num, .int .i64 1, .string name, .slice da n dc, .int .i64 (c : Int), .int .i64 timeout, .int .i64 retries, vl] 29)) src num 1 (c : Int) timeout retries name (.slice da n dc) vl data S (hd.below hbw) (hS.below hbw)
  rw [hnn, hsm] at hsmall
  have HSM := hid hsmall
  have H0 := hid ((Sts.nil w).alloc stab0 (.cells #[.int .i64 src, .int .i64 num, .int .i64 1, .string name, .slice da n dc, .int .i64 (c : Int), .int .i64 timeout, .int .i64 retries, vl] 29))
  clear hsmall hbw hd hS hG hG1 hb hnn hsm
  go_enter Try.func4, Try.ntmps4
  go_wp2_with (first | (go_at_call 13; refine HSM.out.mono ?_; rintro e w1 ⟨rfl, hb1⟩; have H1 := hid (H0.out.quiet (stab1 (blkP_stable _ _)) hb1); clear hb1; have q0 := (Sts.boxCell H1.out 0 _ rfl).1; have q1 := (Sts.boxCell H1.out 1 _ rfl).1; have q2 := (Sts.boxCell H1.out 2 _ rfl).1; have q3 := (Sts.boxCell H1.out 3 _ rfl).1; have q4 := (Sts.boxCell H1.out 4 _ rfl).1; have q5 := (Sts.boxCell H1.out 5 _ rfl).1; have q6 := (Sts.boxCell H1.out 6 _ rfl).1; have q7 := (Sts.boxCell H1.out 7 _ rfl).1; have q8 := (Sts.boxCell H1.out 8 _ rfl).1))
  clear HSM H0 q0 q1 q2 q3 q4 q5 q6 q7 q8
  refine (cNewOk (stab1 (blkP_stable _ _)) src num 1 name (.slice da n dc) data (c : Int) timeout retries H1.out (RdsB.arg HD.out) hname (by rw [HNN.out]; omega) (by rw [HNN.out]; exact HNB.out)).mono ?_
  rintro e w2 ⟨q1, rfl, h⟩
  have H2 := hid h
  clear h H1
  go_wp2_with fail
  refine (stepU (stab1 (blkP_stable _ _)) q1 (newSrc src num 1 name data (c : Int) timeout retries) H2.out HG.out 0 (ordS src num 1 name data (c : Int) timeout retries 0) .head (newSrc src num 1 name data (c : Int) timeout retries) (ord_head ..) (by kernel_rfl)).mono ?_
  rintro e w3 ⟨pa0, pc0, he, h⟩
  obtain rfl : e = .returned (.tuple #[.agg #[.int .i64 1, .int .i64 src, .int .i64 num, .int .i64 1, .string name, .int .i64 (data.length : Nat), .int .i64 0, .slice none 0 0, .int .u32 0, .int .i64 0, .slice none 0 0], .bool true]) := he
  rw [HNN.out]
  have h3 := h.swap.tail
  have HM := hid (h3.alloc (stabC (srcP_stable _ _) (stab1 (blkP_stable _ _))) (.cells #[.int .i64 1, .int .i64 src, .int .i64 num, .int .i64 1, .string name, .int .i64 (n : Int), .int .i64 0, .slice none 0 0, .int .u32 0, .int .i64 0, .slice none 0 0] 45))
  clear h h3 H2
  have q0 := (Sts.boxCell (HM.out.perm (List.perm_middle (l₁ := [_, _]) (l₂ := _))) 0 _ rfl).1
  have q1 := (Sts.boxCell (HM.out.perm (List.perm_middle (l₁ := [_, _]) (l₂ := _))) 1 _ rfl).1
  have q2 := (Sts.boxCell (HM.out.perm (List.perm_middle (l₁ := [_, _]) (l₂ := _))) 2 _ rfl).1
  have q3 := (Sts.boxCell (HM.out.perm (List.perm_middle (l₁ := [_, _]) (l₂ := _))) 3 _ rfl).1
  have q4 := (Sts.boxCell (HM.out.perm (List.perm_middle (l₁ := [_, _]) (l₂ := _))) 4 _ rfl).1
  go_wp2_with fail
  have HL0 := hid HM.out.tail
  clear HM q0 q1 q2 q3 q4
  go_loopw [7] (fun i wr => ∃ k : Nat, k ≤ n ∧ i = .int .i64 k ∧ Sts w [srcP q1 (ordS src num 1 name data (c : Int) timeout retries k), blkP w.heap.size (.cells #[.int .i64 src, .int .i64 num, .int .i64 1, .string name, .slice da n dc, .int .i64 (c : Int), .int .i64 timeout, .int .i64 retries, vl] 29 (0, 0))] wr) (fun i _ => n - (intOf i).toNat)
  case atStart => exact ⟨0, by omega, rfl, HL0.out⟩
  case round =>
    obtain ⟨k, hk, rfl, hS⟩ := hrel
    have HS := hid hS
    have q4 := (Sts.boxCell hS.tail 4 _ rfl).1
    clear hS HL0
    by_cases hlt : k < n
    · obtain ⟨a', c', e', -, hx⟩ := HD.out.1
      injection e' with e1 e2 e3
      obtain ⟨b, off, e4, -, -⟩ := hx k (by rw [u8s_len, HNN.out]; exact hlt)
      obtain rfl : da = some ⟨b, off, none⟩ := e1.trans e4
      clear e1 e2 e3 e4 hx a' c'
      obtain ⟨t, ht⟩ : ∃ t, t = min (k + c) n := ⟨_, rfl⟩
      obtain ⟨m, hm⟩ : ∃ m, m = t - k := ⟨_, rfl⟩
      have t1 : k < t := by omega
      have t2 : t ≤ n := by omega
      have hmn : min (c : Int) (IntKind.i64.wrap ((n : Int) - (k : Int))) = (m : Int) := by rw [show ((n : Int) - (k : Int)) = ((n - k : Nat) : Int) by omega, i64w _ (by omega)]; omega
      have hkm : IntKind.i64.wrap ((k : Int) + (m : Int)) = (t : Int) := by rw [← Int.natCast_add, i64w _ (by omega)]; omega
      have hm0 : ((m : Int) == 0) = false := by rw [beq_eq_false_iff_ne]; omega
      have HPE : Hid ((ordS src num 1 name data (c : Int) timeout retries k).nextV 0 = ((ordS src num 1 name data (c : Int) timeout retries t), .piece k t)) := hid (by have h := ord_piece src num 1 name data (c : Int) timeout retries k c (by rw [HNN.out]; exact hlt) rfl; rw [HNN.out, ← ht] at h; exact h)
      have hmt : t - k = m := hm.symm
      have HLEN : Hid (((data.drop k).take (t - k)).length = m) := hid (by rw [List.length_take, List.length_drop, HNN.out]; omega)
      have hsl : ∀ x : World, (Instr.slice 24 (.slice (some ⟨b, off, none⟩) n dc) (some (.int .i64 (k : Int))) (some (.int .i64 (t : Int))) none).run Try.prog x = .ok (.slice (some ⟨b, off + k, none⟩) m (dc - k)) x := fun x => by
        have h := Lib.run_slice_window x 24 5 Try.underlying24 (fun w => by first | rfl | simp [go_sem] | kernel_rfl) b off n dc k t t1 (by omega)
        rw [hmt] at h
        exact h
      clear ht hm
      go_wp2_with fail
      refine (stepU (stab1 (blkP_stable _ _)) q1 (ordS src num 1 name data (c : Int) timeout retries k) HS.out (HGk.out k) 0 (ordS src num 1 name data (c : Int) timeout retries t) (.piece k t) (ordS src num 1 name data (c : Int) timeout retries k) HPE.out (ord_pass ..)).mono ?_
      rintro e w4 ⟨pa, pc, he, h⟩
      have he' : e = .returned (.tuple #[.agg #[.int .i64 2, .int .i64 src, .int .i64 num, .int .i64 0, .string ⟨#[]⟩, .int .i64 0, .int .i64 (k : Int), .slice pa ((data.drop k).take (t - k)).length pc, .int .u32 0, .int .i64 0, .slice none 0 0], .bool true]) := he
      rw [HLEN.out] at he'
      subst he'
      have hst : Sts w [srcP q1 (ordS src num 1 name data (c : Int) timeout retries t), rowU pa pc ((data.drop k).take (t - k)), blkP w.heap.size (.cells #[.int .i64 src, .int .i64 num, .int .i64 1, .string name, .slice (some ⟨b, off, none⟩) n dc, .int .i64 (c : Int), .int .i64 timeout, .int .i64 retries, vl] 29 (0, 0))] w4 := h
      clear h he HS HPE
      obtain ⟨sub, hsub⟩ : ∃ sub, sub = (data.drop k).take (t - k) := ⟨_, rfl⟩
      rw [← hsub] at hst HLEN
      have hr2 := (HD.out.1.drop k (by rw [u8s_len, HNN.out]; omega) (some ⟨b, off + k, none⟩) (dc - k) (by rw [u8s_len, HNN.out]; omega) (by rintro b' off' - e; injection e with e; injection e with e1 e2; subst e1; subst e2; rfl))
      have hr3 := Rd.take hr2 m (by rw [List.length_drop, u8s_len, HNN.out]; omega) (dc - k) (by have := hcap.2; omega)
      have HWIN : Hid (∀ x, Below w.heap.size w x → (convert 24 9 (.slice (some ⟨b, off + k, none⟩) m (dc - k))).run Try.prog x = .ok (.string (strB sub)) x) := hid (fun x hx => by
        have hr4 : RdB w (.slice (some ⟨b, off + k, none⟩) m (dc - k)) sub := ⟨by rw [hsub, hmt]; unfold u8s at hr3 ⊢; rw [← List.map_drop, ← List.map_take] at hr3; exact hr3, fun y hy => HD.out.2 y (by rw [hsub] at hy; exact List.mem_of_mem_drop (List.mem_of_mem_take hy))⟩
        exact RdB.str (hr4.below hx) 24 9 5 Try.underlying24 Try.underlying5 Try.underlying9)
      have HSB : Hid (∀ y ∈ sub, y < 256) := hid (fun y hy => HD.out.2 y (by rw [hsub] at hy; exact List.mem_of_mem_drop (List.mem_of_mem_take hy)))
      clear hr2 hr3 hsub
      have HP := hid (hst.alloc (stabC (srcP_stable _ _) (stabC (rowU_stable _ _ _) (stab1 (blkP_stable _ _)))) (.cells #[.int .i64 2, .int .i64 src, .int .i64 num, .int .i64 0, .string ⟨#[]⟩, .int .i64 0, .int .i64 (k : Int), .slice pa m pc, .int .u32 0, .int .i64 0, .slice none 0 0] 45))
      clear hst
      have HLST : Hid (∀ B ∈ [blkP w4.heap.size (.cells #[.int .i64 2, .int .i64 src, .int .i64 num, .int .i64 0, .string ⟨#[]⟩, .int .i64 0, .int .i64 (k : Int), .slice pa m pc, .int .u32 0, .int .i64 0, .slice none 0 0] 45 (0, 0)), srcP q1 (ordS src num 1 name data (c : Int) timeout retries t), rowU pa pc sub, blkP w.heap.size (.cells #[.int .i64 src, .int .i64 num, .int .i64 1, .string name, .slice (some ⟨b, off, none⟩) n dc, .int .i64 (c : Int), .int .i64 timeout, .int .i64 retries, vl] 29 (0, 0))], Stable B) := hid (stabC (blkP_stable _ _) (stabC (srcP_stable _ _) (stabC (rowU_stable _ _ _) (stab1 (blkP_stable _ _)))))
      go_wp2_with fail
      have hWQ : ∀ q, Sts w [blkP w4.heap.size (.cells #[.int .i64 2, .int .i64 src, .int .i64 num, .int .i64 0, .string ⟨#[]⟩, .int .i64 0, .int .i64 (k : Int), .slice pa m pc, .int .u32 0, .int .i64 0, .slice none 0 0] 45 (0, 0)), srcP q1 (ordS src num 1 name data (c : Int) timeout retries t), rowU pa pc sub, blkP w.heap.size (.cells #[.int .i64 src, .int .i64 num, .int .i64 1, .string name, .slice (some ⟨b, off, none⟩) n dc, .int .i64 (c : Int), .int .i64 timeout, .int .i64 retries, vl] 29 (0, 0))] ((w4.alloc (.cells #[.int .i64 2, .int .i64 src, .int .i64 num, .int .i64 0, .string ⟨#[]⟩, .int .i64 0, .int .i64 (k : Int), .slice pa m pc, .int .u32 0, .int .i64 0, .slice none 0 0] 45)).drewN q) := fun q => HP.out.quiet HLST.out (below_drewN (Below.refl _ _) q)
      have cv1 : ∀ q, (convert 24 9 (.slice pa m pc)).run Try.prog ((w4.alloc (.cells #[.int .i64 2, .int .i64 src, .int .i64 num, .int .i64 0, .string ⟨#[]⟩, .int .i64 0, .int .i64 (k : Int), .slice pa m pc, .int .u32 0, .int .i64 0, .slice none 0 0] 45)).drewN q) = .ok (.string (strB sub)) ((w4.alloc (.cells #[.int .i64 2, .int .i64 src, .int .i64 num, .int .i64 0, .string ⟨#[]⟩, .int .i64 0, .int .i64 (k : Int), .slice pa m pc, .int .u32 0, .int .i64 0, .slice none 0 0] 45)).drewN q) := fun q => by
        have h := RdB.str (rowU_rd ((hWQ q).perm (List.perm_middle (l₁ := [_, _]) (l₂ := _))) HSB.out) 24 9 5 Try.underlying24 Try.underlying5 Try.underlying9
        rw [HLEN.out] at h
        exact h
      have cv2 := fun q => HWIN.out _ (hWQ q).below
      have p0 := (Sts.boxCell HP.out 0 _ rfl).1
      have p6 := (Sts.boxCell HP.out 6 _ rfl).1
      have p7 := (Sts.boxCell HP.out 7 _ rfl).1
      have q4 := (Sts.boxCell (HP.out.perm (List.perm_middle (l₁ := [_, _, _]) (l₂ := _))) 4 _ rfl).1
      have q5 := (Sts.boxCell (HP.out.perm (List.perm_middle (l₁ := [_, _, _]) (l₂ := _))) 5 _ rfl).1
      have HWQ := hid hWQ
      clear hWQ
      go_quiet (fail)
      go_wp2_with fail
      go_roundw
      case rel => exact ⟨t, t2, by first | rfl | go_num, ((HWQ.out _).tail.swap.tail)⟩
      case measure => simp [intOf]; omega
    · obtain rfl : n = k := by omega
      have HPE : Hid ((ordS src num 1 name data (c : Int) timeout retries n).nextV 0 = ((ordS src num 1 name data (c : Int) timeout retries n).eofV, .eof 0)) := hid (by have h := ord_eof src num 1 name data (c : Int) timeout retries; rw [HNN.out] at h; exact h)
      go_wp2_with fail
      refine (stepU (stab1 (blkP_stable _ _)) q1 (ordS src num 1 name data (c : Int) timeout retries n) HS.out (HGk.out n) 0 (ordS src num 1 name data (c : Int) timeout retries n).eofV (.eof 0) (ordS src num 1 name data (c : Int) timeout retries n) HPE.out (ord_pass ..)).mono ?_
      rintro e w5 ⟨pa, pc, he, h⟩
      have he' : e = .returned (.tuple #[.agg #[.int .i64 3, .int .i64 src, .int .i64 num, .int .i64 1, .string ⟨#[]⟩, .int .i64 (data.length : Nat), .int .i64 0, .slice none 0 0, .int .u32 (Fil.sumV data : Nat), .int .i64 0, .slice none 0 0], .bool true]) := he
      rw [HNN.out] at he'
      subst he'
      have hst := h.swap.tail
      have HP := hid (hst.alloc (stabC (srcP_stable _ _) (stab1 (blkP_stable _ _))) (.cells #[.int .i64 3, .int .i64 src, .int .i64 num, .int .i64 1, .string ⟨#[]⟩, .int .i64 (n : Int), .int .i64 0, .slice none 0 0, .int .u32 (Fil.sumV data : Nat), .int .i64 0, .slice none 0 0] 45))
      clear h he hst HS HPE
      have HLST : Hid (∀ B ∈ [blkP w5.heap.size (.cells #[.int .i64 3, .int .i64 src, .int .i64 num, .int .i64 1, .string ⟨#[]⟩, .int .i64 (n : Int), .int .i64 0, .slice none 0 0, .int .u32 (Fil.sumV data : Nat), .int .i64 0, .slice none 0 0] 45 (0, 0)), srcP q1 (ordS src num 1 name data (c : Int) timeout retries n).eofV, blkP w.heap.size (.cells #[.int .i64 src, .int .i64 num, .int .i64 1, .string name, .slice da n dc, .int .i64 (c : Int), .int .i64 timeout, .int .i64 retries, vl] 29 (0, 0))], Stable B) := hid (stabC (blkP_stable _ _) (stabC (srcP_stable _ _) (stab1 (blkP_stable _ _))))
      go_wp2_with fail
      refine wp_region_ord (.pure 0 (.pure 1 (.pure 2 (.pure 3 (.pure 4 (.pure 5 (.pure 6 (.pure 7 (.pure 8 (.pure 9 (.pure 10 (.pure 11 (.pure 12 (.pure 13 (.pure 14 (.pure 15 (.pure 16 (.pure 17 (.pure 18 (.pure 19 (.pure 20 (.pure 21 (.pure 22 (.pure 23 (.pure 24 (.pure 25 (.pure 26 (.pure 27 (.pure 28 (.pure 29 (.pure 30 (.pure 31 (.eff 32 (.pure 33 (.pure 34 .nil))))))))))))))))))))))))))))))))))) (fun y => Sts w [blkP w5.heap.size (.cells #[.int .i64 3, .int .i64 src, .int .i64 num, .int .i64 1, .string ⟨#[]⟩, .int .i64 (n : Int), .int .i64 0, .slice none 0 0, .int .u32 (Fil.sumV data : Nat), .int .i64 0, .slice none 0 0] 45 (0, 0)), srcP q1 (ordS src num 1 name data (c : Int) timeout retries n).eofV, blkP w.heap.size (.cells #[.int .i64 src, .int .i64 num, .int .i64 1, .string name, .slice da n dc, .int .i64 (c : Int), .int .i64 timeout, .int .i64 retries, vl] 29 (0, 0))] y) (fun y => Sts w [blkP w5.heap.size (.cells #[.int .i64 3, .int .i64 src, .int .i64 num, .int .i64 1, .string ⟨#[]⟩, .int .i64 (n : Int), .int .i64 0, .slice none 0 0, .int .u32 (Fil.sumV data : Nat), .int .i64 0, .slice none 0 0] 45 (0, 0)), srcP q1 (ordS src num 1 name data (c : Int) timeout retries n).eofV, blkP w.heap.size (.cells #[.int .i64 src, .int .i64 num, .int .i64 1, .string name, .slice da n dc, .int .i64 (c : Int), .int .i64 timeout, .int .i64 retries, vl] 29 (0, 0))] y) (by kernel_rfl) (by kernel_rfl) (HP.out.drew HLST.out) (fun _ h => h) ?_
      iterate 32
        (apply ord_pure (ho := rfl)
         · go_simp
         · intro x hx
           have p0 := (Sts.boxCell hx 0 _ rfl).1
           have p3 := (Sts.boxCell hx 3 _ rfl).1
           have p5 := (Sts.boxCell hx 5 _ rfl).1
           have p8 := (Sts.boxCell hx 8 _ rfl).1
           have p9 := (Sts.boxCell hx 9 _ rfl).1
           have q2 := (Sts.boxCell (hx.perm (List.perm_middle (l₁ := [_, _]) (l₂ := _))) 2 _ rfl).1
           have q4 := (Sts.boxCell (hx.perm (List.perm_middle (l₁ := [_, _]) (l₂ := _))) 4 _ rfl).1
           clear hx
           go_simp
           rfl
         apply ord_norm
         · go_simp; rfl)
      apply ord_eff (ho := rfl)
      · go_simp
      intro y hy
      refine eff_call (f := 21) (by go_simp) (cSum y (.slice da n dc) data (HD.out.below hy.below) (by rw [HNN.out]; omega)) ?_
      rintro e w2 ⟨rfl, rfl⟩
      refine ⟨_, rfl, (fun y => Sts w [blkP w5.heap.size (.cells #[.int .i64 3, .int .i64 src, .int .i64 num, .int .i64 1, .string ⟨#[]⟩, .int .i64 (n : Int), .int .i64 0, .slice none 0 0, .int .u32 (Fil.sumV data : Nat), .int .i64 0, .slice none 0 0] 45 (0, 0)), srcP q1 (ordS src num 1 name data (c : Int) timeout retries n).eofV, blkP w.heap.size (.cells #[.int .i64 src, .int .i64 num, .int .i64 1, .string name, .slice da n dc, .int .i64 (c : Int), .int .i64 timeout, .int .i64 retries, vl] 29 (0, 0))] y), (fun y => Sts w [blkP w5.heap.size (.cells #[.int .i64 3, .int .i64 src, .int .i64 num, .int .i64 1, .string ⟨#[]⟩, .int .i64 (n : Int), .int .i64 0, .slice none 0 0, .int .u32 (Fil.sumV data : Nat), .int .i64 0, .slice none 0 0] 45 (0, 0)), srcP q1 (ordS src num 1 name data (c : Int) timeout retries n).eofV, blkP w.heap.size (.cells #[.int .i64 src, .int .i64 num, .int .i64 1, .string name, .slice da n dc, .int .i64 (c : Int), .int .i64 timeout, .int .i64 retries, vl] 29 (0, 0))] y), hy, (fun _ h => h), (fun _ h => h), ?_⟩
      clear hy y
      apply ord_norm
      · go_simp; rfl
      iterate 2
        (apply ord_pure (ho := rfl)
         · go_simp
         · intro x hx
           clear hx
           go_simp
           rfl
         apply ord_norm
         · go_simp; rfl)
      refine ord_nil fun z hz => ?_
      have HZ := hid hz.tail
      clear hz HP HLST
      go_wp2_with fail
      refine (stepU (stab1 (blkP_stable _ _)) q1 (ordS src num 1 name data (c : Int) timeout retries n).eofV HZ.out HGE.out 0 (ordS src num 1 name data (c : Int) timeout retries n).eofV .non (ordS src num 1 name data (c : Int) timeout retries n).eofV (by have h := ord_end1 src num name data (c : Int) timeout retries; rw [HNN.out] at h; exact h) (by kernel_rfl)).mono ?_
      rintro e w6 ⟨pa6, pc6, he, h⟩
      have he' : e = .returned (.tuple #[.agg #[.int .i64 0, .int .i64 0, .int .i64 0, .int .i64 0, .string ⟨#[]⟩, .int .i64 0, .int .i64 0, .slice none 0 0, .int .u32 0, .int .i64 0, .slice none 0 0], .bool false]) := he
      subst he'
      have hst := h.swap.tail
      have HP := hid (hst.alloc (stabC (srcP_stable _ _) (stab1 (blkP_stable _ _))) (.cells #[.int .i64 0, .int .i64 0, .int .i64 0, .int .i64 0, .string ⟨#[]⟩, .int .i64 0, .int .i64 0, .slice none 0 0, .int .u32 0, .int .i64 0, .slice none 0 0] 45))
      clear h he hst HZ
      have HLST : Hid (∀ B ∈ [blkP w6.heap.size (.cells #[.int .i64 0, .int .i64 0, .int .i64 0, .int .i64 0, .string ⟨#[]⟩, .int .i64 0, .int .i64 0, .slice none 0 0, .int .u32 0, .int .i64 0, .slice none 0 0] 45 (0, 0)), srcP q1 (ordS src num 1 name data (c : Int) timeout retries n).eofV, blkP w.heap.size (.cells #[.int .i64 src, .int .i64 num, .int .i64 1, .string name, .slice da n dc, .int .i64 (c : Int), .int .i64 timeout, .int .i64 retries, vl] 29 (0, 0))], Stable B) := hid (stabC (blkP_stable _ _) (stabC (srcP_stable _ _) (stab1 (blkP_stable _ _))))
      have HSV : Hid ((ordS src num 1 name data (c : Int) timeout retries n).eofV.stateV = 4) := hid (by have h := ord_st1 src num name data (c : Int) timeout retries; rw [HNN.out] at h; exact h)
      go_wp2_with fail
      refine wp_region_ord (.pure 0 (.pure 1 (.pure 2 (.pure 3 (.pure 6 (.pure 7 (.pure 8 (.eff 4 (.pure 5 (.pure 9 (.pure 10 (.pure 11 (.pure 12 (.pure 15 (.pure 16 (.pure 17 (.eff 13 (.pure 14 (.pure 18 (.pure 19 (.pure 20 (.eff 21 (.pure 22 (.pure 23 .nil)))))))))))))))))))))))) (fun y => Sts w [blkP w6.heap.size (.cells #[.int .i64 0, .int .i64 0, .int .i64 0, .int .i64 0, .string ⟨#[]⟩, .int .i64 0, .int .i64 0, .slice none 0 0, .int .u32 0, .int .i64 0, .slice none 0 0] 45 (0, 0)), srcP q1 (ordS src num 1 name data (c : Int) timeout retries n).eofV, blkP w.heap.size (.cells #[.int .i64 src, .int .i64 num, .int .i64 1, .string name, .slice da n dc, .int .i64 (c : Int), .int .i64 timeout, .int .i64 retries, vl] 29 (0, 0))] y) (fun y => Sts w [blkP w6.heap.size (.cells #[.int .i64 0, .int .i64 0, .int .i64 0, .int .i64 0, .string ⟨#[]⟩, .int .i64 0, .int .i64 0, .slice none 0 0, .int .u32 0, .int .i64 0, .slice none 0 0] 45 (0, 0)), srcP q1 (ordS src num 1 name data (c : Int) timeout retries n).eofV, blkP w.heap.size (.cells #[.int .i64 src, .int .i64 num, .int .i64 1, .string name, .slice da n dc, .int .i64 (c : Int), .int .i64 timeout, .int .i64 retries, vl] 29 (0, 0))] y) (by kernel_rfl) (by kernel_rfl) (HP.out.drew HLST.out) (fun _ h => h) ?_
      iterate 7
        (apply ord_pure (ho := rfl)
         · go_simp
         · intro x hx
           have q2 := (Sts.boxCell (hx.perm (List.perm_middle (l₁ := [_, _]) (l₂ := _))) 2 _ rfl).1
           clear hx
           go_simp
           rfl
         apply ord_norm
         · go_simp; rfl)
      apply ord_eff (ho := rfl)
      · go_simp
      intro y hy
      refine eff_call (f := 17) (by go_simp) (cStateS q1 (ordS src num 1 name data (c : Int) timeout retries n).eofV hy.swap) ?_
      rintro e w2 ⟨rfl, rfl⟩
      refine ⟨_, rfl, (fun y => Sts w [blkP w6.heap.size (.cells #[.int .i64 0, .int .i64 0, .int .i64 0, .int .i64 0, .string ⟨#[]⟩, .int .i64 0, .int .i64 0, .slice none 0 0, .int .u32 0, .int .i64 0, .slice none 0 0] 45 (0, 0)), srcP q1 (ordS src num 1 name data (c : Int) timeout retries n).eofV, blkP w.heap.size (.cells #[.int .i64 src, .int .i64 num, .int .i64 1, .string name, .slice da n dc, .int .i64 (c : Int), .int .i64 timeout, .int .i64 retries, vl] 29 (0, 0))] y), (fun y => Sts w [blkP w6.heap.size (.cells #[.int .i64 0, .int .i64 0, .int .i64 0, .int .i64 0, .string ⟨#[]⟩, .int .i64 0, .int .i64 0, .slice none 0 0, .int .u32 0, .int .i64 0, .slice none 0 0] 45 (0, 0)), srcP q1 (ordS src num 1 name data (c : Int) timeout retries n).eofV, blkP w.heap.size (.cells #[.int .i64 src, .int .i64 num, .int .i64 1, .string name, .slice da n dc, .int .i64 (c : Int), .int .i64 timeout, .int .i64 retries, vl] 29 (0, 0))] y), hy, (fun _ h => h), (fun _ h => h), ?_⟩
      rw [HSV.out]
      clear hy y
      apply ord_norm
      · go_simp; rfl
      iterate 8
        (apply ord_pure (ho := rfl)
         · go_simp
         · intro x hx
           have q2 := (Sts.boxCell (hx.perm (List.perm_middle (l₁ := [_, _]) (l₂ := _))) 2 _ rfl).1
           clear hx
           go_simp
           rfl
         apply ord_norm
         · go_simp; rfl)
      apply ord_eff (ho := rfl)
      · go_simp
      intro y hy
      refine eff_call (f := 17) (by go_simp) (cStateS q1 (ordS src num 1 name data (c : Int) timeout retries n).eofV hy.swap) ?_
      rintro e w2 ⟨rfl, rfl⟩
      refine ⟨_, rfl, (fun y => Sts w [blkP w6.heap.size (.cells #[.int .i64 0, .int .i64 0, .int .i64 0, .int .i64 0, .string ⟨#[]⟩, .int .i64 0, .int .i64 0, .slice none 0 0, .int .u32 0, .int .i64 0, .slice none 0 0] 45 (0, 0)), srcP q1 (ordS src num 1 name data (c : Int) timeout retries n).eofV, blkP w.heap.size (.cells #[.int .i64 src, .int .i64 num, .int .i64 1, .string name, .slice da n dc, .int .i64 (c : Int), .int .i64 timeout, .int .i64 retries, vl] 29 (0, 0))] y), (fun y => Sts w [blkP w6.heap.size (.cells #[.int .i64 0, .int .i64 0, .int .i64 0, .int .i64 0, .string ⟨#[]⟩, .int .i64 0, .int .i64 0, .slice none 0 0, .int .u32 0, .int .i64 0, .slice none 0 0] 45 (0, 0)), srcP q1 (ordS src num 1 name data (c : Int) timeout retries n).eofV, blkP w.heap.size (.cells #[.int .i64 src, .int .i64 num, .int .i64 1, .string name, .slice da n dc, .int .i64 (c : Int), .int .i64 timeout, .int .i64 retries, vl] 29 (0, 0))] y), hy, (fun _ h => h), (fun _ h => h), ?_⟩
      rw [HSV.out]
      clear hy y
      apply ord_norm
      · go_simp; rfl
      iterate 4
        (apply ord_pure (ho := rfl)
         · go_simp
         · intro x hx
           have q2 := (Sts.boxCell (hx.perm (List.perm_middle (l₁ := [_, _]) (l₂ := _))) 2 _ rfl).1
           clear hx
           go_simp
           rfl
         apply ord_norm
         · go_simp; rfl)
      apply ord_eff (ho := rfl)
      · go_simp
      intro y hy
      refine eff_call (f := 14) (by go_simp) (cLives27 y) ?_
      rintro e w2 ⟨rfl, hbl⟩
      refine ⟨_, rfl, (fun y => Sts w [blkP w6.heap.size (.cells #[.int .i64 0, .int .i64 0, .int .i64 0, .int .i64 0, .string ⟨#[]⟩, .int .i64 0, .int .i64 0, .slice none 0 0, .int .u32 0, .int .i64 0, .slice none 0 0] 45 (0, 0)), srcP q1 (ordS src num 1 name data (c : Int) timeout retries n).eofV, blkP w.heap.size (.cells #[.int .i64 src, .int .i64 num, .int .i64 1, .string name, .slice da n dc, .int .i64 (c : Int), .int .i64 timeout, .int .i64 retries, vl] 29 (0, 0))] y), (fun y => Sts w [blkP w6.heap.size (.cells #[.int .i64 0, .int .i64 0, .int .i64 0, .int .i64 0, .string ⟨#[]⟩, .int .i64 0, .int .i64 0, .slice none 0 0, .int .u32 0, .int .i64 0, .slice none 0 0] 45 (0, 0)), srcP q1 (ordS src num 1 name data (c : Int) timeout retries n).eofV, blkP w.heap.size (.cells #[.int .i64 src, .int .i64 num, .int .i64 1, .string name, .slice da n dc, .int .i64 (c : Int), .int .i64 timeout, .int .i64 retries, vl] 29 (0, 0))] y), hy.quiet HLST.out hbl, (fun _ h => h), (fun _ h => h), ?_⟩
      clear hy hbl y
      apply ord_norm
      · go_simp; rfl
      iterate 2
        (apply ord_pure (ho := rfl)
         · go_simp
         · intro x hx
           have q2 := (Sts.boxCell (hx.perm (List.perm_middle (l₁ := [_, _]) (l₂ := _))) 2 _ rfl).1
           clear hx
           go_simp
           rfl
         apply ord_norm
         · go_simp; rfl)
      refine ord_nil fun z hz => ?_
      have HZ := hid hz.below
      clear hz
      go_wp2_with fail
      go_ret
      exact ⟨rfl, HZ.out⟩
end Go.Proofs.Ytfjadhkhmhnccaa
