/- The contract of Clone. -/
import Derived.Test.YtfjadhkhmhnccaaSrcOps
import Derived.Test.YtfjadhkhmhnccaaStaC
set_option linter.unusedVariables false
set_option linter.unusedSimpArgs false
namespace Go.Proofs.Ytfjadhkhmhnccaa
open Go.RowKit Go.Proofs.Num
theorem wpList_load_agg {ops : Array Oper} {rest : List Oper} {o : Oper} {a : Act} {Q : Exit → Act → World → Prop} {w : World} {b : Nat} {c : Array Value} {t0 : TypeId}
    (hb : w.heap[b]? = some (.cells c t0 (0, 0))) (hgd : o.guard = none) (x : Operand) (ty : TypeId) (ho : o.op = .load ty x) (hx : a.eval x = .pointer (some ⟨b, 0, none⟩)) (fs : Array Field) (hu : Try.prog.underlying ty = some (.struct fs)) (hi : (Try.prog.info? ty).map (·.size) = some c.size)
    (h : wpList Try.prog ops Q rest (a.put o.dst (.agg c)) w) : wpList Try.prog ops Q (o :: rest) a w := by
  refine wpList_plain hgd fun K hK => ?_
  have hl := run_loadVar_row (P := Try.prog) w b t0 ty c (0, 0) (.struct fs) hb hu rfl hi
  unfold Oper.wp execOp
  simp only [ho, hx, Instr.loadAt, Instr.sureAddr, Sem.run_bind, Sem.run_pure, Result.andThen_ok, hl]
  exact hK _ _ h
set_option maxRecDepth 100000 in
theorem size21 : ∀ w, (Go.sizeOf 64).run Try.prog w = .ok 21 w := fun w => by first | rfl | simp [go_sem] | kernel_rfl
section
variable {W w : World} {l : List HProp} (hl : ∀ B ∈ l, Stable B) (q : Nat) (s : Fil.Src) (hs : Sts W (srcP q s :: l) w) (hn : s.data.length < 100000000) (hb : ∀ x ∈ s.data, x < 256) (hw : s.wanted.length < 1000000)
include hl hs hn hb hw
set_option maxRecDepth 100000 in
set_option maxHeartbeats 4000000 in
theorem cClone : Calls Try.prog 31 #[.pointer (some ⟨q, 0, none⟩)] w fun e w' => ∃ n, e = .returned (.pointer (some ⟨n, 0, none⟩)) ∧ Sts W (srcP n s :: srcP q s :: l) w' := by
  obtain ⟨dv, wv, h⟩ := Sts.openSrc hs
  obtain ⟨da, dc, hde⟩ := (Rd.of_own (Sts.rowOwn (h.swap)) (u8s_len _)).eq
  rw [u8s_len] at hde
  subst hde
  obtain ⟨wa, wc, hwe⟩ := (RdR.of_own (Sts.rowOwnK h.third) rfl).eq
  subst hwe
  have hl3 : ∀ B ∈ blkP q (.cells (s.cells (.slice da s.data.length dc) (.slice wa s.wanted.length wc)) 64 (0, 0)) :: rowP 5 1 (.slice da s.data.length dc) s.data.length (u8s s.data) :: rowP 81 2 (.slice wa s.wanted.length wc) s.wanted.length (Fil.rcells s.wanted) :: l, Stable B := stabC (blkP_stable _ _) (stabC (rowP_stable _ _ _ _ _) (stabC (rowP_stable _ _ _ _ _) hl))
  have hz := h.alloc hl3 (.cells #[.bool false, .int .i64 0, .int .i64 0, .int .i64 0, .string ⟨#[]⟩, .slice none 0 0, .int .i64 0, .int .i64 0, .int .i64 0, .int .i64 0, .int .i64 0, .bool false, .bool false, .int .i64 0, .bool false, .slice none 0 0, .bool false, .int .i64 0, .int .i64 0, .bool false, .int .i64 0] 64)
  have HZ0 := hid hz
  have HOK := hid (cOkS w q (Sts.srcC h).k0)
  have HB : Hid (w.heap[q]? = some (.cells (s.cells (.slice da s.data.length dc) (.slice wa s.wanted.length wc)) 64 (0, 0))) := hid (by obtain ⟨F, hF⟩ := h.head; exact hF.1)
  have HL := hid hl
  have HL3 := hid hl3
  have HN := hid hn
  have HBT := hid hb
  have HW := hid hw
  clear h hz hs hl hl3 hn hb hw
  go_enter Try.func31, Try.ntmps31
  go_wp2_with (first | (go_at_call 59; refine HOK.out.mono ?_; rintro e w2 ⟨rfl, rfl⟩) | (refine wpList_load_agg HB.out rfl (.tmp 8) 64 rfl rfl _ Try.underlying64 (by kernel_rfl) ?_) | (refine wpList_store_agg HZ0.out HL3.out rfl (.tmp 3) (.tmp 9) 64 rfl (s.cells (.slice da s.data.length dc) (.slice wa s.wanted.length wc)) rfl rfl size21 rfl (fun v hv => List.all_eq_true.1 (show ((s.cells (.slice da s.data.length dc) (.slice wa s.wanted.length wc)).toList).all (fun v => v.oneCell') = true from rfl) v hv) (by kernel_rfl) ?_; intro w7 hZ; have H7 := hid hZ; have a5 := (Sts.srcC hZ.swap).k5; have HCB := hid (cCloneB w7 _ s.data ⟨Rd.of_own (Sts.rowOwn hZ.tail.tail) (u8s_len _), HBT.out⟩ HN.out); clear hZ HZ0 HB) | (go_at_call 56; refine HCB.out.mono ?_; rintro e w8 ⟨r, rfl, hN⟩; have h8 := Sts.new (stabC (blkP_stable _ _) HL3.out) H7.out hN; rw [u8s_len] at h8; obtain ⟨ra, rc, hre⟩ := hN.rd.eq; rw [u8s_len] at hre; subst hre; have n5 := (Sts.boxCell h8.tail 5 _ rfl).1; have m5 : w8.frozen? ⟨w.heap.size, 5, none⟩ = false := (by obtain ⟨F, hF⟩ := h8.tail.head; exact free_blk hF.1); have st := Sts.store (stabC (rowP_stable _ _ _ _ _) HL3.out) h8.swap (j := 5) (.slice ra s.data.length rc); have H8 := hid st; have a15 := (Sts.srcC (st.perm (List.perm_middle (l₁ := [_, _]) (l₂ := _)))).k15; have HCR := hid (cCloneR _ _ s.wanted (RdR.of_own (Sts.rowOwnK (st.perm (List.perm_middle (l₁ := [_, _, _, _]) (l₂ := l)))) rfl) HW.out); clear h8 st hN HCB H7 a5) | (go_at_call 79; refine HCR.out.mono ?_; rintro e w9 ⟨r2, rfl, hN2⟩; have h9 := Sts.newR (stabC (blkP_stable _ _) (stabC (rowP_stable _ _ _ _ _) HL3.out)) H8.out hN2; obtain ⟨rb, rd, hre2⟩ := hN2.rd.eq; subst hre2; have n15 := (Sts.boxCell h9.tail 15 _ rfl).1; have m15 : w9.frozen? ⟨w.heap.size, 15, none⟩ = false := (by obtain ⟨F, hF⟩ := h9.tail.head; exact free_blk hF.1); have st2 := Sts.store (stabC (rowP_stable _ _ _ _ _) (stabC (rowP_stable _ _ _ _ _) HL3.out)) h9.swap (j := 15) (.slice rb s.wanted.length rd); have sh := Sts.shutSrc (s := s) (dv := .slice ra s.data.length rc) (wv := .slice rb s.wanted.length rd) (st2.perm ((List.Perm.swap _ _ _).cons _)); have H9 := hid (Sts.shutSrc (sh.perm (List.perm_middle (l₁ := [_, _, _]) (l₂ := l)).symm)).swap; clear h9 st2 sh hN2 HCR H8))
  go_ret
  exact ⟨_, rfl, H9.out⟩
end
end Go.Proofs.Ytfjadhkhmhnccaa
