/- Frames of the downlink, decoded. The unpacker counts frames. -/
import Derived.Test.YtnklmadmenkdoaaGreatQSdpD
import Derived.Test.YtnklmadmenkdoaaGreatQStr
import Derived.Test.YtnklmadmenkdoaaGreatQScbB
set_option linter.unusedVariables false
set_option linter.unusedSimpArgs false
namespace Go.Proofs.YtnklmadmenkdoaaGreat
open Go.RowKit Go.Proofs.Num
def tm0 : Array Value := #[.int .i64 0, .int .i64 0, .int .i64 0, .int .i64 0, .int .i64 0, .slice none 0 0, .int .i64 0, .bool false, .bool false, .bool false, .int .i64 0, .int .i64 0]
set_option maxRecDepth 100000 in
theorem szTm : ∀ w, (Go.sizeOf 74).run Tryz.prog w = .ok 12 w := fun w => by first | rfl | simp [go_sem] | kernel_rfl
theorem exec_aggJ {W w : World} {l : List HProp} {b : Nat} {c : Array Value} {t0 : TypeId} {o : Oper} {a : Act} (hS : Sts W (blkP b (.cells c t0 (0, 0)) :: l) w) (hl : ∀ B ∈ l, Stable B) (p v : Operand) (t : TypeId) (ho : o.op = .store t p v) (j : Nat) (vs : Array Value)
    (hp : a.eval p = .pointer (some ⟨b, j, none⟩)) (hv : a.eval v = .agg vs) (hz : ∀ w, (Go.sizeOf t).run Tryz.prog w = .ok vs.size w) (hc : j + vs.size ≤ c.size) (h1 : vs.toList.all (fun v => v.oneCell') = true) :
    ∃ w', (execOp a.eval o).run Tryz.prog w = .ok .skip w' ∧ Sts W (blkP b (.cells (putAll j vs.toList c) t0 (0, 0)) :: l) w' := by
  have hb : w.heap[b]? = some (.cells c t0 (0, 0)) := by obtain ⟨F, hF⟩ := hS.head; exact hF.1
  have hst := run_storeCells_cells (P := Tryz.prog) b j vs.toList 0 w (fun k hk => by
      have hj2 : j + k < c.size := by have : k < vs.size := by simpa using hk
                                      omega
      have h3 := cell_blk hb (Array.getElem?_eq_getElem hj2)
      simp only [Nat.add_zero]
      rw [h3]; rfl) (fun j hj => free_blk hb) (List.all_eq_true.1 h1)
  have hf := Sts.storeAll hl vs.toList j _ _ hS
  rw [setAll_cellsS] at hf
  refine ⟨_, ?_, hf⟩
  unfold execOp
  simp only [ho, hp, hv]
  simp [go_sem, Instr.storeAt, storeVar, hz, Value.cells, hst]
theorem wpList_aggJ {ops : Array Oper} {rest : List Oper} {o : Oper} {a : Act} {Q : Exit → Act → World → Prop} {W w : World} {l : List HProp} {b : Nat} {c : Array Value} {t0 : TypeId}
    (hS : Sts W (blkP b (.cells c t0 (0, 0)) :: l) w) (hl : ∀ B ∈ l, Stable B) (hgd : o.guard = none) (p v : Operand) (t : TypeId) (ho : o.op = .store t p v) (j : Nat) (vs c2 : Array Value)
    (hp : a.eval p = .pointer (some ⟨b, j, none⟩)) (hv : a.eval v = .agg vs) (hz : ∀ w, (Go.sizeOf t).run Tryz.prog w = .ok vs.size w) (hc : j + vs.size ≤ c.size) (h1 : vs.toList.all (fun v => v.oneCell') = true) (h2 : putAll j vs.toList c = c2)
    (h : ∀ w', Sts W (blkP b (.cells c2 t0 (0, 0)) :: l) w' → wpList Tryz.prog ops Q rest (a.put o.dst undef) w') : wpList Tryz.prog ops Q (o :: rest) a w := by
  refine wpList_plain hgd fun K hK => ?_
  obtain ⟨w', hr, hf⟩ := exec_aggJ (o := o) (a := a) hS hl p v t ho j vs hp hv hz hc h1
  unfold Oper.wp
  rw [hr]
  rw [h2] at hf
  exact hK _ _ (h _ hf)
set_option maxRecDepth 100000 in
theorem put_clc (i : Nat) (v : Value) : putAll 6 clcZ.toList (tmV i v) = tmV i v := rfl
set_option maxRecDepth 100000 in
set_option maxHeartbeats 8000000 in
theorem cTmDecode (i : Nat) (ab ao : Nat) (c : Nat) (xs : List Nat) (w : World) (hi : i < 16) (hn : xs.length = 244) (hR : RdB w (.slice (some ⟨ab, ao, none⟩) 256 c) (tmB i xs)) :
    Calls Tryz.prog 48 #[.slice (some ⟨ab, ao, none⟩) 256 c] w fun e w' => ∃ ra rc, e = .returned (.tuple #[.agg (tmV i (.slice ra 244 rc)), .int .i64 0]) ∧ New w w' 5 (.slice ra 244 rc) (u8s xs) := by
  have HS : Hid (Sts w (blkP w.heap.size (.cells tm0 74 (0, 0)) :: []) (w.alloc (.cells tm0 74))) := hid (Sts.alloc stab0 (Sts.nil w) _)
  have HLB : Hid (∀ B ∈ [blkP w.heap.size (.cells tm0 74 (0, 0))], Stable B) := hid (stabC (blkP_stable _ _) stab0)
  obtain ⟨M, hM⟩ : ∃ M, M = Tmh.hd i ++ xs ++ [1, 0, 0, 0] := ⟨_, rfl⟩
  have hML : 256 = M.length + 2 := by rw [hM]; simp [Tmh.hd, hn]
  have hR' : RdB w (.slice (some ⟨ab, ao, none⟩) 256 c) (Cmd.crcB M) := by rw [hM]; exact hR
  have hcap := (Rd.cap hR.1).2
  have HT : Hid (RdB w (.slice (some ⟨ab, ao, none⟩) 6 c) (Tmh.hd i)) := hid (by
    have h := RdB.take (l := Tmh.hd i) (m := xs ++ [1, 0, 0, 0] ++ Cmd.sum2 M) (show RdB w (.slice (some ⟨ab, ao, none⟩) 256 c) (Tmh.hd i ++ (xs ++ [1, 0, 0, 0] ++ Cmd.sum2 M)) by
      have e : Cmd.crcB M = Tmh.hd i ++ (xs ++ [1, 0, 0, 0] ++ Cmd.sum2 M) := by unfold Cmd.crcB; rw [hM]; simp [List.append_assoc]
      rw [← e]; exact hR')
    exact h)
  have HRX : Hid (RdB w (.slice (some ⟨ab, ao + 6, none⟩) 244 (c - 6)) xs) := hid (by
    have h := RdB.mid (k := Tmh.hd i) (l := xs) (m := [1, 0, 0, 0] ++ Cmd.sum2 M) (show RdB w (.slice (some ⟨ab, ao, none⟩) 256 c) (Tmh.hd i ++ xs ++ ([1, 0, 0, 0] ++ Cmd.sum2 M)) by
      have e : Cmd.crcB M = Tmh.hd i ++ xs ++ ([1, 0, 0, 0] ++ Cmd.sum2 M) := by unfold Cmd.crcB; rw [hM]; simp [List.append_assoc]
      rw [← e]; exact hR') (c - 6) (by rw [hn]; unfold maxLen at *; omega)
    rw [hn] at h; exact h)
  have HRW : Hid (RdB w (.slice (some ⟨ab, ao + 250, none⟩) 4 (c - 250)) [1, 0, 0, 0]) := hid (by
    have h := RdB.mid (k := Tmh.hd i ++ xs) (l := [1, 0, 0, 0]) (m := Cmd.sum2 M) (show RdB w (.slice (some ⟨ab, ao, none⟩) 256 c) (Tmh.hd i ++ xs ++ [1, 0, 0, 0] ++ Cmd.sum2 M) by
      have e : Cmd.crcB M = Tmh.hd i ++ xs ++ [1, 0, 0, 0] ++ Cmd.sum2 M := by unfold Cmd.crcB; rw [hM]
      rw [← e]; exact hR') (c - 250) (by show 4 ≤ c - 250 ∧ _; unfold maxLen at *; omega)
    have e2 : (Tmh.hd i ++ xs).length = 250 := by simp [Tmh.hd, hn]
    rw [e2] at h; exact h)
  have HR := hid hR'
  have HI := hid hi
  have HN := hid hn
  have HML := hid hML
  have HM := hid hM
  have s1 : (6 : Int) ≤ (c : Int) := by omega
  have s2 : (250 : Int) ≤ (c : Int) := by omega
  have s3 : (254 : Int) ≤ (c : Int) := by omega
  have s4 : ¬ c = 6 := by omega
  have s5 : ¬ c = 250 := by omega
  have s8 : IntKind.i64.wrap 250 = 250 := by decide
  have s9 : IntKind.i64.wrap 254 = 254 := by decide
  have w5 : IntKind.i64.wrap 5 = 5 := by decide
  have w0 : IntKind.i64.wrap 0 = 0 := by decide
  have wi : IntKind.i64.wrap (i : Int) = (i : Int) := by rw [IntKind.wrap_i64]; omega
  have HCAP := hid hcap
  clear hi hn hR hR' hML hM hcap
  go_enter Tryz.func48, Tryz.ntmps48
  go_wp2_with (first
    | (go_at_call 124; refine (cCheck16 _ (some ⟨ab, ao, none⟩) c 256 M HML.out (HR.out.below HS.out.below) (by have := HML.out; omega)).mono ?_; rintro e w1 ⟨rfl, h1⟩; have H1 := hid (HS.out.quiet HLB.out h1); clear h1)
    | (go_at_call 125; refine (cBrNew HLB.out H1.out (.slice (some ⟨ab, ao, none⟩) 6 c) (Tmh.hd i) (HT.out.below H1.out.below) (NilOk.some _ _ _) (by simp [Tmh.hd])).mono ?_; rintro e w2 ⟨p, r, rfl, h1⟩; have H3 := hid h1; clear h1))
  go_wp2_with fail
  refine (cBrSkip HLB.out p (0) 2 r (Tmh.hd i) H3.out (by simp [Tmh.hd]) (by simp [Tmh.hd])).mono ?_
  rintro e y4 ⟨rfl, h1⟩
  have H4 := hid h1
  clear h1 H3
  go_wp2_with fail
  refine (cBrGet HLB.out p (0 + 2) 10 r (Tmh.hd i) H4.out (Tmh.hd_lt i HI.out) (by simp [Tmh.hd]) (by decide) (by simp [Tmh.hd])).mono ?_
  rintro e y5 ⟨rfl, h1⟩
  rw [show Bitr.num (Tmh.hd i) (0 + 2) 10 = 5 from (Tmh.num_hd i HI.out).1]
  have H5 := hid h1
  clear h1 H4
  go_wp2_with fail
  refine (cBrGet HLB.out p (0 + 2 + 10) 3 r (Tmh.hd i) H5.out (Tmh.hd_lt i HI.out) (by simp [Tmh.hd]) (by decide) (by simp [Tmh.hd])).mono ?_
  rintro e y6 ⟨rfl, h1⟩
  rw [show Bitr.num (Tmh.hd i) (0 + 2 + 10) 3 = 0 from (Tmh.num_hd i HI.out).2.1]
  have H6 := hid h1
  clear h1 H5
  have h4 := Sts.alloc (brO_stable p _ r _ HLB.out) H6.out (.cells #[.int .i64 5, .int .i64 0, .int .i64 0, .int .i64 0, .int .i64 0, .slice none 0 0, .int .i64 0, .bool false, .bool false, .bool false, .int .i64 0, .int .i64 0] 74)
  obtain ⟨b5, hb5⟩ : ∃ b, b = y6.heap.size := ⟨_, rfl⟩
  have H7 : Hid (Sts w (brO p (0 + 2 + 10 + 3) r (Tmh.hd i) ++ [blkP b5 (.cells #[.int .i64 5, .int .i64 0, .int .i64 0, .int .i64 0, .int .i64 0, .slice none 0 0, .int .i64 0, .bool false, .bool false, .bool false, .int .i64 0, .int .i64 0] 74 (0, 0)), blkP w.heap.size (.cells tm0 74 (0, 0))]) (y6.alloc (.cells #[.int .i64 5, .int .i64 0, .int .i64 0, .int .i64 0, .int .i64 0, .slice none 0 0, .int .i64 0, .bool false, .bool false, .bool false, .int .i64 0, .int .i64 0] 74))) := hid (hb5 ▸ h4.third'.perm (List.Perm.refl _))
  have HLC := hid (show ∀ B ∈ [blkP b5 (.cells #[.int .i64 5, .int .i64 0, .int .i64 0, .int .i64 0, .int .i64 0, .slice none 0 0, .int .i64 0, .bool false, .bool false, .bool false, .int .i64 0, .int .i64 0] 74 (0, 0)), blkP w.heap.size (.cells tm0 74 (0, 0))], Stable B from stabC (blkP_stable _ _) (stabC (blkP_stable _ _) stab0))
  clear h4 H6
  go_wp2_with fail
  rw [← hb5]
  clear hb5
  refine (cBrSkip HLC.out p (0 + 2 + 10 + 3) 1 r (Tmh.hd i) H7.out (by simp [Tmh.hd]) (by simp [Tmh.hd])).mono ?_
  rintro e y8 ⟨rfl, h1⟩
  have H8 := hid h1
  clear h1 H7
  go_wp2_with fail
  refine (cBrGet HLC.out p (0 + 2 + 10 + 3 + 1) 8 r (Tmh.hd i) H8.out (Tmh.hd_lt i HI.out) (by simp [Tmh.hd]) (by decide) (by simp [Tmh.hd])).mono ?_
  rintro e y9 ⟨rfl, h1⟩
  rw [show Bitr.num (Tmh.hd i) (0 + 2 + 10 + 3 + 1) 8 = i from (Tmh.num_hd i HI.out).2.2.1]
  have c9 := (Sts.boxCell h1.tail.tail 2 _ rfl).1
  have f9 := (Sts.boxCell h1.tail.tail 2 _ rfl).2
  have H9 : Hid (Sts w (brO p (0 + 2 + 10 + 3 + 1 + 8) r (Tmh.hd i) ++ [blkP b5 (.cells #[.int .i64 5, .int .i64 0, .int .i64 (i : Int), .int .i64 0, .int .i64 0, .slice none 0 0, .int .i64 0, .bool false, .bool false, .bool false, .int .i64 0, .int .i64 0] 74 (0, 0)), blkP w.heap.size (.cells tm0 74 (0, 0))]) (y9.setCell ⟨b5, 2, none⟩ (.int .i64 (i : Int)))) := hid (Sts.store (stabC (blkP_stable _ _) (stabC (rowP_stable _ _ _ _ _) (stabC (blkP_stable _ _) stab0))) h1.third (j := 2) (.int .i64 (i : Int))).third'
  clear h1 H8
  have HLC := hid (show ∀ B ∈ [blkP b5 (.cells #[.int .i64 5, .int .i64 0, .int .i64 (i : Int), .int .i64 0, .int .i64 0, .slice none 0 0, .int .i64 0, .bool false, .bool false, .bool false, .int .i64 0, .int .i64 0] 74 (0, 0)), blkP w.heap.size (.cells tm0 74 (0, 0))], Stable B from stabC (blkP_stable _ _) (stabC (blkP_stable _ _) stab0))
  go_wp2_with fail
  refine (cBrGet HLC.out p (0 + 2 + 10 + 3 + 1 + 8) 8 r (Tmh.hd i) H9.out (Tmh.hd_lt i HI.out) (by simp [Tmh.hd]) (by decide) (by simp [Tmh.hd])).mono ?_
  rintro e y10 ⟨rfl, h1⟩
  rw [show Bitr.num (Tmh.hd i) (0 + 2 + 10 + 3 + 1 + 8) 8 = i from (Tmh.num_hd i HI.out).2.2.2.1]
  have c10 := (Sts.boxCell h1.tail.tail 3 _ rfl).1
  have f10 := (Sts.boxCell h1.tail.tail 3 _ rfl).2
  have H10 : Hid (Sts w (brO p (0 + 2 + 10 + 3 + 1 + 8 + 8) r (Tmh.hd i) ++ [blkP b5 (.cells #[.int .i64 5, .int .i64 0, .int .i64 (i : Int), .int .i64 (i : Int), .int .i64 0, .slice none 0 0, .int .i64 0, .bool false, .bool false, .bool false, .int .i64 0, .int .i64 0] 74 (0, 0)), blkP w.heap.size (.cells tm0 74 (0, 0))]) (y10.setCell ⟨b5, 3, none⟩ (.int .i64 (i : Int)))) := hid (Sts.store (stabC (blkP_stable _ _) (stabC (rowP_stable _ _ _ _ _) (stabC (blkP_stable _ _) stab0))) h1.third (j := 3) (.int .i64 (i : Int))).third'
  clear h1 H9
  have HLC := hid (show ∀ B ∈ [blkP b5 (.cells #[.int .i64 5, .int .i64 0, .int .i64 (i : Int), .int .i64 (i : Int), .int .i64 0, .slice none 0 0, .int .i64 0, .bool false, .bool false, .bool false, .int .i64 0, .int .i64 0] 74 (0, 0)), blkP w.heap.size (.cells tm0 74 (0, 0))], Stable B from stabC (blkP_stable _ _) (stabC (blkP_stable _ _) stab0))
  go_wp2_with fail
  refine (cBrSkip HLC.out p (0 + 2 + 10 + 3 + 1 + 8 + 8) 5 r (Tmh.hd i) H10.out (by simp [Tmh.hd]) (by simp [Tmh.hd])).mono ?_
  rintro e y11 ⟨rfl, h1⟩
  have H11 := hid h1
  clear h1 H10
  go_wp2_with fail
  refine (cBrGet HLC.out p (0 + 2 + 10 + 3 + 1 + 8 + 8 + 5) 11 r (Tmh.hd i) H11.out (Tmh.hd_lt i HI.out) (by simp [Tmh.hd]) (by decide) (by simp [Tmh.hd])).mono ?_
  rintro e y12 ⟨rfl, h1⟩
  rw [show Bitr.num (Tmh.hd i) (0 + 2 + 10 + 3 + 1 + 8 + 8 + 5) 11 = 0 from (Tmh.num_hd i HI.out).2.2.2.2]
  have c12 := (Sts.boxCell h1.tail.tail 4 _ rfl).1
  have f12 := (Sts.boxCell h1.tail.tail 4 _ rfl).2
  have H12 : Hid (Sts w (brO p (0 + 2 + 10 + 3 + 1 + 8 + 8 + 5 + 11) r (Tmh.hd i) ++ [blkP b5 (.cells #[.int .i64 5, .int .i64 0, .int .i64 (i : Int), .int .i64 (i : Int), .int .i64 0, .slice none 0 0, .int .i64 0, .bool false, .bool false, .bool false, .int .i64 0, .int .i64 0] 74 (0, 0)), blkP w.heap.size (.cells tm0 74 (0, 0))]) (y12.setCell ⟨b5, 4, none⟩ (.int .i64 0))) := hid (Sts.store (stabC (blkP_stable _ _) (stabC (rowP_stable _ _ _ _ _) (stabC (blkP_stable _ _) stab0))) h1.third (j := 4) (.int .i64 0)).third'
  clear h1 H11
  have HLC := hid (show ∀ B ∈ [blkP b5 (.cells #[.int .i64 5, .int .i64 0, .int .i64 (i : Int), .int .i64 (i : Int), .int .i64 0, .slice none 0 0, .int .i64 0, .bool false, .bool false, .bool false, .int .i64 0, .int .i64 0] 74 (0, 0)), blkP w.heap.size (.cells tm0 74 (0, 0))], Stable B from stabC (blkP_stable _ _) (stabC (blkP_stable _ _) stab0))
  go_wp2_with fail
  have HCL := hid (cBClone (stabC (blkP_stable _ _) (stabC (rowP_stable _ _ _ _ _) (stabC (blkP_stable _ _) (stabC (blkP_stable _ _) stab0)))) H12.out ⟨ab, ao + 6, none⟩ (c - 6) xs (by rw [HN.out]; exact (HRX.out.below H12.out.below).1) (by rw [HN.out]; decide))
  rw [HN.out] at HCL
  refine HCL.out.mono ?_
  rintro e z1 ⟨xa, xc, rfl, h1⟩
  have h2 : Sts w (blkP b5 (.cells (tmV i (.slice none 0 0)) 74 (0, 0)) :: rowP 5 1 (.slice xa 244 xc) 244 (u8s xs) :: blkP w.heap.size (.cells tm0 74 (0, 0)) :: []) z1 := (Sts.sub h1 (.cons_cons _ (.cons _ (.cons _ (.cons_cons _ (List.Sublist.refl _)))))).swap
  have G1 := hid h2
  clear h1 h2 HCL H12
  go_wp2_with (first
    | (refine wpList_cellS G1.out (stabC (rowP_stable _ _ _ _ _) HLB.out) rfl (.tmp 59) (.tmp 58) 35 rfl 5 (.slice xa 244 xc) rfl rfl szSl8 (show 5 < 12 by decide) rfl ?_; intro z2 h2
       have h2' : Sts w (blkP b5 (.cells (tmV i (.slice xa 244 xc)) 74 (0, 0)) :: rowP 5 1 (.slice xa 244 xc) 244 (u8s xs) :: blkP w.heap.size (.cells tm0 74 (0, 0)) :: []) z2 := h2
       have G2 := hid h2'
       clear h2 h2'))
  have HCD := hid (show Calls Tryz.prog 128 #[.slice (some ⟨ab, ao + 250, none⟩) 4 (c - 250)] z2 (fun e w' => e = .returned (.tuple #[.agg #[.int .i64 0, .bool false, .bool false, .bool false, .int .i64 0, .int .i64 0], .int .i64 0]) ∧ Below z2.heap.size z2 w') from cClcwDec z2 ⟨ab, ao + 250, none⟩ (c - 250) (HRW.out.below G2.out.below))
  refine HCD.out.mono ?_
  rintro e z3 ⟨rfl, h3⟩
  have h4 := G2.out.quiet (stabC (blkP_stable _ _) (stabC (rowP_stable _ _ _ _ _) HLB.out)) h3
  have h5 := Sts.alloc (stabC (blkP_stable _ _) (stabC (rowP_stable _ _ _ _ _) HLB.out)) h4 (.cells #[.int .i64 0, .bool false, .bool false, .bool false, .int .i64 0, .int .i64 0] 72)
  have G3 := hid h5
  have HLC6 := hid (ldClc6 (Sts.boxCell h5 0 _ rfl).1 (Sts.boxCell h5 1 _ rfl).1 (Sts.boxCell h5 2 _ rfl).1 (Sts.boxCell h5 3 _ rfl).1 (Sts.boxCell h5 4 _ rfl).1 (Sts.boxCell h5 5 _ rfl).1)
  clear h3 h4 h5 HCD G1
  go_wp2_with (first
    | (refine wpList_ldS rfl (.tmp 6) 72 rfl rfl (.agg clcZ) HLC6.out ?_)
    | (refine wpList_aggJ G3.out.swap (stabC (blkP_stable _ _) (stabC (rowP_stable _ _ _ _ _) HLB.out)) rfl (.tmp 76) (.tmp 75) 72 rfl 6 clcZ (tmV i (.slice xa 244 xc)) rfl rfl szClc (show 6 + 6 ≤ 12 by decide) rfl (put_clc _ _) ?_; intro z4 h4
       have G4 := hid h4
       have HEN := hid (cTmEncode i xa xc xs z4 HI.out HN.out (by have q := Sts.rdB8 (l := xs) (show Sts w (rowP 5 1 (.slice xa 244 xc) xs.length (u8s xs) :: [blkP w.heap.size (.cells tm0 74 (0, 0))]) z4 by rw [HN.out]; exact h4.tail.tail) (HRX.out.2); exact q))
       clear h4)
    | (refine wpList_ldS rfl (.tmp 5) 74 rfl rfl (.agg (tmV i (.slice xa 244 xc))) (ldTm rfl G4.out) ?_)
    | (go_at_call 70; refine HEN.out.mono ?_; rintro e z5 ⟨ro, rfl, h5⟩
       have h6 := Sts.new (stabC (blkP_stable _ _) (stabC (blkP_stable _ _) (stabC (rowP_stable _ _ _ _ _) HLB.out))) G4.out h5
       have G5 := hid h6
       have KE := hid (cBEqual z5 ro (.slice (some ⟨ab, ao, none⟩) 256 c) (Cmd.crcB M) (by have q := h5.rdB (by rw [show tmB i xs = Cmd.crcB M by unfold tmB; rw [HM.out]]; exact HR.out.2); rw [show tmB i xs = Cmd.crcB M by unfold tmB; rw [HM.out]] at q; exact q) (HR.out.below h6.below))
       clear h5 h6)
    | (go_at_call 101; refine KE.out.mono ?_; rintro e z6 ⟨rfl, rfl⟩)
    | (refine wpList_ldS rfl (.tmp 5) 74 rfl rfl (.agg (tmV i (.slice xa 244 xc))) (ldTm rfl G5.out.tail) ?_)
    | (refine wpList_aggS (G5.out.perm (List.perm_append_comm (l₁ := [_, _, _, _]) (l₂ := [_]))) (stabC (rowP_stable _ _ _ _ _) (stabC (blkP_stable _ _) (stabC (blkP_stable _ _) (stabC (rowP_stable _ _ _ _ _) stab0)))) rfl (.tmp 2) (.tmp 91) 74 rfl (tmV i (.slice xa 244 xc)) rfl rfl szTm rfl rfl ?_; intro z7 h7; have G7 := hid h7; clear h7))
  refine post_cell2S G7.out Tryz.results48 rfl rfl (ldTm rfl G7.out) (.int .i64 0) rfl ⟨xa, xc, rfl, ?_⟩
  exact New.of_sts (Sts.sub G7.out (.cons _ (.cons _ (.cons _ (.cons _ (List.Sublist.refl _)))))) (by rw [u8s_len, HN.out])
end Go.Proofs.YtnklmadmenkdoaaGreat
namespace Go.Proofs.YtnklmadmenkdoaaGreat
open Go.RowKit Go.Proofs.Num
def unpO (bg st : Bool) (n : Nat) (v : Value) : Obj := .cells #[.bool true, .bool bg, .bool st, .int .i64 (n : Int), .int .i64 0, v] 302 (0, 0)
set_option maxRecDepth 100000 in
theorem szBool : ∀ w, (Go.sizeOf 4).run Tryz.prog w = .ok 1 w := fun w => by first | rfl | simp [go_sem] | kernel_rfl
section
variable {W w : World} {l : List HProp} (hl : ∀ B ∈ l, Stable B) (q : Nat) (v : Value)
include hl
set_option maxRecDepth 100000 in
set_option maxHeartbeats 1000000 in
theorem cUnpCount0 (hs : Sts W (blkP q (unpO false false 0 v) :: l) w) :
    Calls Tryz.prog 206 #[.pointer (some ⟨q, 0, none⟩), .int .i64 0] w fun e w' => e = .returned (.tuple #[]) ∧ Sts W (blkP q (unpO true false 1 v) :: l) w' := by
  have c1 : w.cell? ⟨q, 1, none⟩ = some (.bool false) := (Sts.boxCell hs 1 _ rfl).1
  have c2 : w.cell? ⟨q, 2, none⟩ = some (.bool false) := (Sts.boxCell hs 2 _ rfl).1
  have HS := hid hs
  have HL := hid hl
  have KA := hid (show ∀ y : World, Calls Tryz.prog 205 #[.int .i64 0, .int .i64 1, .int .i64 8] y fun e w' => e = .returned (.int .i64 1) ∧ y = w' from fun y => cSerAdd8 y 0 1 (by decide) (by decide))
  clear hs hl
  go_enter Tryz.func206, Tryz.ntmps206
  go_wp2_with (first
    | (go_at_call 205; refine (KA.out _).mono ?_; rintro e w1 ⟨rfl, rfl⟩)
    | (refine wpList_cellS HS.out HL.out rfl (.tmp 39) (.const (.bool true)) 4 rfl 1 (.bool true) rfl rfl szBool (show 1 < 6 by decide) rfl ?_; intro w3 h3
       have H3 : Hid (Sts W (blkP q (unpO true false 0 v) :: l) w3) := hid h3
       clear h3)
    | (refine wpList_cellS H3.out HL.out rfl (.tmp 41) (.tmp 37) 3 rfl 3 (.int .i64 1) rfl rfl szInt (show 3 < 6 by decide) rfl ?_; intro w4 h4
       have H4 : Hid (Sts W (blkP q (unpO true false 1 v) :: l) w4) := hid h4
       clear h4))
  go_end0
  exact ⟨rfl, H4.out⟩
set_option maxRecDepth 100000 in
set_option maxHeartbeats 1000000 in
theorem cUnpCountN (i : Nat) (h0 : 0 < i) (hi : i < 200) (hs : Sts W (blkP q (unpO true true i v) :: l) w) :
    Calls Tryz.prog 206 #[.pointer (some ⟨q, 0, none⟩), .int .i64 (i : Int)] w fun e w' => e = .returned (.tuple #[]) ∧ Sts W (blkP q (unpO true true (i + 1) v) :: l) w' := by
  have c1 : w.cell? ⟨q, 1, none⟩ = some (.bool true) := (Sts.boxCell hs 1 _ rfl).1
  have c3 : w.cell? ⟨q, 3, none⟩ = some (.int .i64 (i : Int)) := (Sts.boxCell hs 3 _ rfl).1
  have c4 : w.cell? ⟨q, 4, none⟩ = some (.int .i64 0) := (Sts.boxCell hs 4 _ rfl).1
  have HS := hid hs
  have HL := hid hl
  have KD := hid (show ∀ y : World, Calls Tryz.prog 132 #[.int .i64 (i : Int), .int .i64 (i : Int), .int .i64 8] y fun e w' => e = .returned (.int .i64 0) ∧ y = w' from fun y => by
    have h := cSerDist8 y i i (by omega) (by omega)
    rw [show ((i : Int) + -(i : Int)) % 256 = 0 by omega] at h
    exact h)
  have KA := hid (show ∀ y : World, Calls Tryz.prog 205 #[.int .i64 (i : Int), .int .i64 1, .int .i64 8] y fun e w' => e = .returned (.int .i64 ((i + 1 : Nat) : Int)) ∧ y = w' from fun y => by
    have h := cSerAdd8 y i 1 (by omega) (by decide)
    rw [show ((i : Int) + 1) % 256 = ((i + 1 : Nat) : Int) by omega] at h
    exact h)
  clear hs hl h0 hi
  go_enter Tryz.func206, Tryz.ntmps206
  go_wp2_with (first
    | (go_at_call 132; refine (KD.out _).mono ?_; rintro e w1 ⟨rfl, rfl⟩)
    | (refine wpList_cellS HS.out HL.out rfl (.tmp 22) (.tmp 20) 3 rfl 4 (.int .i64 0) rfl rfl szInt (show 4 < 6 by decide) rfl ?_; intro w2 h2
       have h2' : Sts W (blkP q (unpO true true i v) :: l) w2 := h2
       have c2 : w2.cell? ⟨q, 2, none⟩ = some (.bool true) := (Sts.boxCell h2' 2 _ rfl).1
       have H2 := hid h2'
       clear h2 h2')
    | (refine wpList_cellS H2.out HL.out rfl (.tmp 33) (.tmp 31) 4 rfl 2 (.bool true) rfl rfl szBool (show 2 < 6 by decide) rfl ?_; intro w3 h3
       have H3 : Hid (Sts W (blkP q (unpO true true i v) :: l) w3) := hid h3
       clear h3)
    | (go_at_call 205; refine (KA.out _).mono ?_; rintro e w1 ⟨rfl, rfl⟩)
    | (refine wpList_cellS H3.out HL.out rfl (.tmp 39) (.const (.bool true)) 4 rfl 1 (.bool true) rfl rfl szBool (show 1 < 6 by decide) rfl ?_; intro w4 h4
       have H4 : Hid (Sts W (blkP q (unpO true true i v) :: l) w4) := hid h4
       clear h4)
    | (refine wpList_cellS H4.out HL.out rfl (.tmp 41) (.tmp 37) 3 rfl 3 (.int .i64 ((i + 1 : Nat) : Int)) rfl rfl szInt (show 3 < 6 by decide) rfl ?_; intro w5 h5
       have H5 : Hid (Sts W (blkP q (unpO true true (i + 1) v) :: l) w5) := hid h5
       clear h5))
  go_end0
  exact ⟨rfl, H5.out⟩
end
end Go.Proofs.YtnklmadmenkdoaaGreat
