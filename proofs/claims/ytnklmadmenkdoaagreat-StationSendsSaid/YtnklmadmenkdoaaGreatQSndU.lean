/- The next frame of the sending end. A file store without files. A file entity without transactions. The ground segment's file entity; whether a configuration is valid. The idle file entity, as the evaluator's memory: it has nothing to send. -/
import Derived.Test.YtnklmadmenkdoaaGreatQSndS
import Derived.Test.YtnklmadmenkdoaaGreatQStnA
import Derived.BigQuiet
import Derived.Laws.IdiomRangeMap
set_option linter.unusedVariables false
set_option linter.unusedSimpArgs false
namespace Go.Proofs.YtnklmadmenkdoaaGreat
open Go.RowKit Go.Proofs.Num
theorem below_drewN {B : Nat} {a w : World} (h : Below B a w) (n : Nat) : Below B a (w.drewN n) := ⟨h.os, h.tape, h.output, h.size, h.block⟩
def zeroTc : Array Value := #[.bool false, .bool false, .int .i64 0, .int .i64 0, .int .i64 0, .slice none 0 0]
set_option maxRecDepth 100000 in
theorem szTc : ∀ w, (Go.sizeOf 46).run Tryz.prog w = .ok 6 w := fun w => by first | rfl | simp [go_sem] | kernel_rfl
theorem eff_aggS {L : Prop} {o : Oper} {a : Act} {K : Act → WP → WP → Prop} {W y : World} {l : List HProp} {b : Nat} {c : Array Value} {t0 : TypeId}
    (hS : Sts W (blkP b (.cells c t0 (0, 0)) :: l) y) (hl : ∀ B ∈ l, Stable B) (p v : Operand) (t : TypeId) (ho : o.op = .store t p v) (vs : Array Value)
    (hp : a.eval p = .pointer (some ⟨b, 0, none⟩)) (hv : a.eval v = .agg vs) (hz : ∀ w, (Go.sizeOf t).run Tryz.prog w = .ok vs.size w) (hc : c.size = vs.size) (h1 : vs.toList.all (fun v => v.oneCell') = true) (D : WP)
    (hD : ∀ z, Sts W (blkP b (.cells vs t0 (0, 0)) :: l) z → D z)
    (hk : K (a.put o.dst undef) D (fun z => Sts W (blkP b (.cells vs t0 (0, 0)) :: l) z)) : effUpon Tryz.prog L o.dst a D K ((execOp a.eval o).run Tryz.prog y) := by
  obtain ⟨w', hr, hf⟩ := exec_aggS (o := o) (a := a) hS hl p v t ho vs hp hv hz hc  h1
  exact eff_skip D _ (w := w') hr hf hD (fun _ h => h) hk
section
variable {W w : World} {l : List HProp} (hl : ∀ B ∈ l, Stable B) (fq : Nat) (us : List (List Nat)) (fl now tm : Nat)
include hl
set_option maxRecDepth 100000 in
set_option maxHeartbeats 4000000 in
theorem cFopNextSend (hs : Sts W (fopP fq us fl fl now tm :: l) w) (n : Nat) (hn : now ≤ n) (hn2 : n ≤ 1000000) (hf : fl < us.length) (h1 : us.length < 16) (hu : ∀ u ∈ us, 1 ≤ u.length ∧ u.length ≤ 1017) :
    Calls Tryz.prog 56 #[.pointer (some ⟨fq, 0, none⟩), .int .i64 (n : Int)] w fun e w' => ∃ ra rc, e = .returned (.tuple #[.agg (tcV false false 5 0 fl (.slice ra us[fl].length rc)), .bool true]) ∧ Sts W (fopP fq us (fl + 1) (fl + 1) n n :: rowP 5 1 (.slice ra us[fl].length rc) us[fl].length (u8s us[fl]) :: l) w' := by
  obtain ⟨uv, vs, h0⟩ := Sts.openF hs
  obtain ⟨ub, uc, hue⟩ := own_pos h0.tail.rowOwn (by omega)
  subst hue
  obtain ⟨u, hu0⟩ : ∃ u, u = us[fl] := ⟨_, rfl⟩
  have HL := hid hl
  have HLU := hid (show ∀ B ∈ rowP 35 1 (.slice (some ⟨ub, 0, none⟩) us.length uc) us.length vs :: rowsP 5 vs us :: l, Stable B from stabC (rowP_stable _ _ _ _ _) (stabC (rowsP_stable _ _ _) hl))
  have hb := Sts.alloc (stabC (blkP_stable _ _) HLU.out) h0 (.cells zeroTc 46)
  have HB := hid hb.swap
  have HLB := hid (show ∀ B ∈ blkP w.heap.size (.cells zeroTc 46 (0, 0)) :: rowP 35 1 (.slice (some ⟨ub, 0, none⟩) us.length uc) us.length vs :: rowsP 5 vs us :: l, Stable B from stabC (blkP_stable _ _) HLU.out)
  have HUS := hid (cFopUsable fq 16 (.slice (some ⟨ub, 0, none⟩) us.length uc) 0 (fl : Int) (fl : Int) 5 0 20 10 1 (now : Int) (tm : Int) 0 hb.swap)
  have HCK := hid (cFopClock HLB.out fq fl fl now tm hb.swap n hn hn2)
  have HF := hid hf
  have HU1 := hid hu
  have HU0 := hid hu0
  have H1 := hid h1
  have b0 : ((us.length : Int) == 0) = false := by rw [beq_eq_false_iff_ne]; omega
  have HWB := hid (show decide (fl < us.length) = true from decide_eq_true hf)
  rw [← hu0]
  clear hs h0 hb hl h1 hu hn hn2 hu0
  unfold zeroTc at *
  go_enter Tryz.func56, Tryz.ntmps56
  go_wp2_with (first
    | (go_at_call 129; refine HUS.out.mono ?_; rintro e w1 ⟨rfl, rfl⟩)
    | (go_at_call 130; refine HCK.out.mono ?_; rintro e w1 ⟨rfl, h2⟩
       have H2 := hid h2
       have c11 : w1.cell? ⟨fq, 11, none⟩ = some (.slice none 0 0) := (Sts.boxCell h2 11 _ rfl).1
       have c10 : w1.cell? ⟨fq, 10, none⟩ = some (.int .i64 1) := (Sts.boxCell h2 10 _ rfl).1
       have c1 : w1.cell? ⟨fq, 1, none⟩ = some (.slice (some ⟨ub, 0, none⟩) us.length uc) := (Sts.boxCell h2 1 _ rfl).1
       clear h2)
    | (go_at_call 149; refine (cFopWaiting fq us fl fl n tm H2.out H1.out).mono ?_; rintro e w2 ⟨rfl, m, hm⟩
       rw [HWB.out]
       have H3 : Hid (Sts W (fopP fq us fl fl n tm :: blkP w.heap.size (.cells zeroTc 46 (0, 0)) :: l) w2) := hid (by
         rw [hm]
         have h4 := H2.out.quiet (stabC (blkP_stable _ _) HLB.out) (below_drewN (Below.refl _ _) m)
         exact Sts.closeF (uv := .slice (some ⟨ub, 0, none⟩) us.length uc) (vs := vs) (h4.perm ((List.perm_middle (l₁ := [_, _])).symm.cons _)))
       clear hm H2)
    | (go_at_call 150; refine (cFopTake (stabC (blkP_stable _ _) HL.out) fq us fl n tm H3.out hf (by have := H1.out; omega) HU1.out).mono ?_; rintro e w3 ⟨ra, rc, he, h5⟩
       rw [← HU0.out] at he h5
       subst he
       obtain ⟨uv2, vs2, h6⟩ := Sts.openF h5
       have H6 := hid h6
       have c12 : w3.cell? ⟨fq, 12, none⟩ = some (.int .i64 (n : Int)) := (Sts.boxCell h6 12 _ rfl).1
       clear h5 h6 H3)
    | (refine wpList_cellS H6.out (stabC (rowP_stable _ _ _ _ _) (stabC (rowsP_stable _ _ _) (stabC (rowP_stable _ _ _ _ _) (stabC (blkP_stable _ _) HL.out)))) rfl (.tmp 113) (.tmp 111) 3 rfl 13 (.int .i64 (n : Int)) rfl rfl szInt (show 13 < 15 by decide) rfl ?_; intro w4 h7
       have H7 : Hid (Sts W (blkP fq (.cells (fopA (fl + 1) (fl + 1) n n uv2) 216 (0, 0)) :: rowP 35 1 uv2 us.length vs2 :: rowsP 5 vs2 us :: rowP 5 1 (.slice ra u.length rc) u.length (u8s u) :: blkP w.heap.size (.cells #[.bool false, .bool false, .int .i64 0, .int .i64 0, .int .i64 0, .slice none 0 0] 46 (0, 0)) :: l) w4) := hid h7
       clear h7 H6))
  have HL7 := hid (show ∀ B ∈ blkP fq (.cells (fopA (fl + 1) (fl + 1) n n uv2) 216 (0, 0)) :: rowP 35 1 uv2 us.length vs2 :: rowsP 5 vs2 us :: rowP 5 1 (.slice ra u.length rc) u.length (u8s u) :: l, Stable B from stabC (blkP_stable _ _) (stabC (rowP_stable _ _ _ _ _) (stabC (rowsP_stable _ _ _) (stabC (rowP_stable _ _ _ _ _) HL.out))))
  refine wp_region_ordQ (.pure 0 (.pure 1 (.pure 2 (.pure 3 (.pure 4 (.pure 5 (.pure 6 (.pure 7 (.pure 8 (.pure 9 (.pure 10 (.eff 11 (.pure 12 .nil))))))))))))) (fun y => y.cell? ⟨fq, 6, none⟩ = some (.int .i64 5) ∧ y.cell? ⟨fq, 7, none⟩ = some (.int .i64 0)) (fun y => Sts W (blkP w.heap.size (.cells #[.bool false, .bool false, .int .i64 0, .int .i64 0, .int .i64 0, .slice none 0 0] 46 (0, 0)) :: blkP fq (.cells (fopA (fl + 1) (fl + 1) n n uv2) 216 (0, 0)) :: rowP 35 1 uv2 us.length vs2 :: rowsP 5 vs2 us :: rowP 5 1 (.slice ra u.length rc) u.length (u8s u) :: l) y) (by kernel_rfl) (by kernel_rfl) ((H7.out.perm (List.perm_middle (l₁ := [_, _, _, _]))).drew (stabC (blkP_stable _ _) HL7.out)) (fun y hy => ⟨(Sts.boxCell hy.tail 6 _ rfl).1, (Sts.boxCell hy.tail 7 _ rfl).1⟩) ?_
  iterate 11
    (apply ordq_pure (ho := rfl)
     · go_simp
     · intro x hx; obtain ⟨k1, k2⟩ := hx; go_simp; rfl
     apply ordq_norm
     · go_simp; rfl)
  apply ordq_eff (ho := rfl)
  · go_simp
  intro y hy
  refine eff_aggS hy HL7.out (.tmp 4) (.tmp 124) 46 rfl #[.bool false, .bool false, .int .i64 5, .int .i64 0, .int .i64 (fl : Int), .slice ra u.length rc] ?_ ?_ szTc rfl rfl (fun y => y.cell? ⟨fq, 6, none⟩ = some (.int .i64 5) ∧ y.cell? ⟨fq, 7, none⟩ = some (.int .i64 0)) (fun y hy => ⟨(Sts.boxCell hy.tail 6 _ rfl).1, (Sts.boxCell hy.tail 7 _ rfl).1⟩) ?_
  · go_simp
  · go_simp
  apply ordq_norm
  · go_simp; rfl
  iterate 1
    (apply ordq_pure (ho := rfl)
     · go_simp
     · intro x hx; go_simp; rfl
     apply ordq_norm
     · go_simp; rfl)
  refine ordq_nil fun z hz => ?_
  have HZ := hid hz
  clear hz hy y H7
  go_wp2_with fail
  refine post_cell2S HZ.out Tryz.results56 rfl rfl (ldTc rfl HZ.out) (.bool true) rfl ⟨ra, rc, rfl, ?_⟩
  exact Sts.closeF (uv := uv2) (vs := vs2) HZ.out.tail
set_option maxRecDepth 100000 in
set_option maxHeartbeats 4000000 in
/-- No unit is there. -/
theorem cFopNextNo (hs : Sts W (fopP fq us fl fl now tm :: l) w) (n : Nat) (hn : now ≤ n) (hn2 : n ≤ 1000000) (h1 : us.length = 0) :
    Calls Tryz.prog 56 #[.pointer (some ⟨fq, 0, none⟩), .int .i64 (n : Int)] w fun e w' => e = .returned (.tuple #[.agg zeroTc, .bool false]) ∧ Sts W (fopP fq us fl fl n tm :: l) w' := by
  obtain ⟨uv, vs, h0⟩ := Sts.openF hs
  obtain ⟨ua, uc, hue⟩ := own_slice h0.tail.rowOwn
  subst hue
  have HL := hid hl
  have HLU := hid (show ∀ B ∈ rowP 35 1 (.slice ua us.length uc) us.length vs :: rowsP 5 vs us :: l, Stable B from stabC (rowP_stable _ _ _ _ _) (stabC (rowsP_stable _ _ _) hl))
  have hb := Sts.alloc (stabC (blkP_stable _ _) HLU.out) h0 (.cells zeroTc 46)
  have HB := hid hb.swap
  have HLB := hid (show ∀ B ∈ blkP w.heap.size (.cells #[.bool false, .bool false, .int .i64 0, .int .i64 0, .int .i64 0, .slice none 0 0] 46 (0, 0)) :: rowP 35 1 (.slice ua us.length uc) us.length vs :: rowsP 5 vs us :: l, Stable B from stabC (blkP_stable _ _) HLU.out)
  have HUS := hid (cFopUsable fq 16 (.slice ua us.length uc) 0 (fl : Int) (fl : Int) 5 0 20 10 1 (now : Int) (tm : Int) 0 hb.swap)
  have HCK := hid (cFopClock HLB.out fq fl fl now tm hb.swap n hn hn2)
  have b0 : ((us.length : Int) == 0) = true := by rw [beq_iff_eq]; omega
  clear hs h0 hb hl hn hn2 h1
  unfold zeroTc at *
  go_enter Tryz.func56, Tryz.ntmps56
  go_wp2_with (first
    | (go_at_call 129; refine HUS.out.mono ?_; rintro e w1 ⟨rfl, rfl⟩)
    | (go_at_call 130; refine HCK.out.mono ?_; rintro e w1 ⟨rfl, h2⟩
       have H2 := hid h2
       have c11 : w1.cell? ⟨fq, 11, none⟩ = some (.slice none 0 0) := (Sts.boxCell h2 11 _ rfl).1
       have c10 : w1.cell? ⟨fq, 10, none⟩ = some (.int .i64 1) := (Sts.boxCell h2 10 _ rfl).1
       have c1 : w1.cell? ⟨fq, 1, none⟩ = some (.slice ua us.length uc) := (Sts.boxCell h2 1 _ rfl).1
       clear h2)
    | (refine wpList_aggS H2.out.swap (stabC (blkP_stable _ _) HLU.out) rfl (.tmp 4) (.tmp 55) 46 rfl #[.bool false, .bool false, .int .i64 0, .int .i64 0, .int .i64 0, .slice none 0 0] rfl rfl szTc rfl rfl ?_; intro w9 h9; have HF := hid h9; clear h9))
  refine post_cell2S HF.out Tryz.results56 rfl rfl (ldTc rfl HF.out) (.bool false) rfl ⟨rfl, ?_⟩
  have h9 : Sts W (blkP w.heap.size (.cells #[.bool false, .bool false, .int .i64 0, .int .i64 0, .int .i64 0, .slice none 0 0] 46 (0, 0)) :: blkP fq (.cells (fopA fl fl n tm (.slice ua us.length uc)) 216 (0, 0)) :: rowP 35 1 (.slice ua us.length uc) us.length vs :: rowsP 5 vs us :: l) w9 := HF.out
  exact Sts.closeF (uv := (.slice ua us.length uc)) (vs := vs) h9.tail
set_option maxRecDepth 100000 in
set_option maxHeartbeats 4000000 in
/-- All units are on their way, and it is not yet time to repeat them. -/
theorem cFopNextWait (hs : Sts W (fopP fq us fl fl now tm :: l) w) (n : Nat) (hn : now ≤ n) (hn2 : n ≤ 1000000) (h1 : 1 ≤ us.length) (h2 : us.length < 16) (hf : us.length ≤ fl) (ht : n < tm + 20) (ht2 : tm ≤ 1000000) :
    Calls Tryz.prog 56 #[.pointer (some ⟨fq, 0, none⟩), .int .i64 (n : Int)] w fun e w' => e = .returned (.tuple #[.agg zeroTc, .bool false]) ∧ Sts W (fopP fq us fl fl n tm :: l) w' := by
  obtain ⟨uv, vs, h0⟩ := Sts.openF hs
  obtain ⟨ua, uc, hue⟩ := own_slice h0.tail.rowOwn
  subst hue
  have HL := hid hl
  have HLU := hid (show ∀ B ∈ rowP 35 1 (.slice ua us.length uc) us.length vs :: rowsP 5 vs us :: l, Stable B from stabC (rowP_stable _ _ _ _ _) (stabC (rowsP_stable _ _ _) hl))
  have hb := Sts.alloc (stabC (blkP_stable _ _) HLU.out) h0 (.cells zeroTc 46)
  have HB := hid hb.swap
  have HLB := hid (show ∀ B ∈ blkP w.heap.size (.cells #[.bool false, .bool false, .int .i64 0, .int .i64 0, .int .i64 0, .slice none 0 0] 46 (0, 0)) :: rowP 35 1 (.slice ua us.length uc) us.length vs :: rowsP 5 vs us :: l, Stable B from stabC (blkP_stable _ _) HLU.out)
  have HUS := hid (cFopUsable fq 16 (.slice ua us.length uc) 0 (fl : Int) (fl : Int) 5 0 20 10 1 (now : Int) (tm : Int) 0 hb.swap)
  have HCK := hid (cFopClock HLB.out fq fl fl now tm hb.swap n hn hn2)
  have b0 : ((us.length : Int) == 0) = false := by rw [beq_eq_false_iff_ne]; omega
  have H16 := hid h2
  have HWB := hid (show decide (fl < us.length) = false from decide_eq_false (by omega))
  have e1 : wrap64 ((tm : Int) + 20) = (tm : Int) + 20 := by unfold wrap64; omega
  have e2 : decide ((n : Int) < (tm : Int) + 20) = true := decide_eq_true (by omega)
  have e4 : IntKind.i64.wrap ((tm : Int) + 20) = (tm : Int) + 20 := by rw [IntKind.wrap_i64]; omega
  have e5 : IntKind.i64.wrap (20 + (tm : Int)) = (tm : Int) + 20 := by rw [IntKind.wrap_i64]; omega
  have e6 : wrap64 (20 + (tm : Int)) = (tm : Int) + 20 := by unfold wrap64; omega
  have e3 : (n : Int) < (tm : Int) + 20 := by omega
  clear hs h0 hb hl hn hn2 h1 h2 hf ht ht2
  unfold zeroTc at *
  go_enter Tryz.func56, Tryz.ntmps56
  go_wp2_with (first
    | (go_at_call 129; refine HUS.out.mono ?_; rintro e w1 ⟨rfl, rfl⟩)
    | (go_at_call 130; refine HCK.out.mono ?_; rintro e w1 ⟨rfl, h2⟩
       have H2 := hid h2
       have c11 : w1.cell? ⟨fq, 11, none⟩ = some (.slice none 0 0) := (Sts.boxCell h2 11 _ rfl).1
       have c10 : w1.cell? ⟨fq, 10, none⟩ = some (.int .i64 1) := (Sts.boxCell h2 10 _ rfl).1
       have c1 : w1.cell? ⟨fq, 1, none⟩ = some (.slice ua us.length uc) := (Sts.boxCell h2 1 _ rfl).1
       clear h2)
    | (go_at_call 149; refine (cFopWaiting fq us fl fl n tm H2.out H16.out).mono ?_; rintro e w2 ⟨rfl, m, hm⟩
       rw [HWB.out]
       have H3 := hid (show Sts W (blkP fq (.cells (fopA fl fl n tm (.slice ua us.length uc)) 216 (0, 0)) :: blkP w.heap.size (.cells #[.bool false, .bool false, .int .i64 0, .int .i64 0, .int .i64 0, .slice none 0 0] 46 (0, 0)) :: rowP 35 1 (.slice ua us.length uc) us.length vs :: rowsP 5 vs us :: l) w2 by rw [hm]; exact H2.out.quiet (stabC (blkP_stable _ _) HLB.out) (below_drewN (Below.refl _ _) m))
       have c12 : w2.cell? ⟨fq, 12, none⟩ = some (.int .i64 (n : Int)) := (Sts.boxCell H3.out 12 _ rfl).1
       have c13 : w2.cell? ⟨fq, 13, none⟩ = some (.int .i64 (tm : Int)) := (Sts.boxCell H3.out 13 _ rfl).1
       have c8 : w2.cell? ⟨fq, 8, none⟩ = some (.int .i64 20) := (Sts.boxCell H3.out 8 _ rfl).1
       clear hm H2))
  go_quiet (fail)
  have H4 := hid (show Sts W (blkP fq (.cells (fopA fl fl n tm (.slice ua us.length uc)) 216 (0, 0)) :: blkP w.heap.size (.cells #[.bool false, .bool false, .int .i64 0, .int .i64 0, .int .i64 0, .slice none 0 0] 46 (0, 0)) :: rowP 35 1 (.slice ua us.length uc) us.length vs :: rowsP 5 vs us :: l) (w2.drewN nq) from H3.out.quiet (stabC (blkP_stable _ _) HLB.out) (below_drewN (Below.refl _ _) nq))
  go_wp2_with (refine wpList_aggS H4.out.swap (stabC (blkP_stable _ _) HLU.out) rfl (.tmp 4) (.tmp 75) 46 rfl #[.bool false, .bool false, .int .i64 0, .int .i64 0, .int .i64 0, .slice none 0 0] rfl rfl szTc rfl rfl ?_; intro w9 h9; have HF := hid h9; clear h9)
  refine post_cell2S HF.out Tryz.results56 rfl rfl (ldTc rfl HF.out) (.bool false) rfl ⟨rfl, ?_⟩
  have h9 : Sts W (blkP w.heap.size (.cells #[.bool false, .bool false, .int .i64 0, .int .i64 0, .int .i64 0, .slice none 0 0] 46 (0, 0)) :: blkP fq (.cells (fopA fl fl n tm (.slice ua us.length uc)) 216 (0, 0)) :: rowP 35 1 (.slice ua us.length uc) us.length vs :: rowsP 5 vs us :: l) w9 := HF.out
  exact Sts.closeF (uv := (.slice ua us.length uc)) (vs := vs) h9.tail
end
end Go.Proofs.YtnklmadmenkdoaaGreat
namespace Go.Proofs.YtnklmadmenkdoaaGreat
open Go.RowKit Go.Proofs.Num
theorem run_next_empty {P : Program} (w : World) (ty : TypeId) (bm : Nat) (hb : w.heap[bm]? = some (.map #[] 0)) :
    (Instr.next (.pointer (some ⟨w.heap.size, 0, none⟩)) false ty).run P (w.alloc (.mapIter (some bm) 0 #[] 0)) = .ok (.tuple #[.bool false]) (w.alloc (.mapIter (some bm) 0 #[] 0)) := by
  rcases run_next_map (P := P) w ty bm 0 0 #[] #[] 0 hb (by simp) (Nat.le_refl _) with ⟨-, h⟩ | ⟨e, he, -⟩
  · exact h
  · simp [leftOf] at he
section
variable {W w : World} {l : List HProp} (hl : ∀ B ∈ l, Stable B)
include hl
set_option maxRecDepth 100000 in
theorem cFilNew (hs : Sts W l w) (a b : Int) (h1 : 0 ≤ a ∧ a ≤ 256) (h2 : 0 ≤ b ∧ b ≤ 2147483648) : Calls Tryz.prog 105 #[.int .i64 a, .int .i64 b] w fun e w' => ∃ q m, e = .returned (.pointer (some ⟨q, 0, none⟩)) ∧ Sts W (blkP q (.cells #[.int .i64 a, .int .i64 b, .map (some m)] 300 (0, 0)) :: blkP m (.map #[] 0) :: l) w' := by
  have H0 := hid (hs.alloc hl (.map #[] 0))
  have H1 := hid (H0.out.alloc (stabC (blkP_stable _ _) hl) (.cells #[.int .i64 a, .int .i64 b, .map (some w.heap.size)] 300))
  have n1 : max a 0 = a := by omega
  have n2 : max b 0 = b := by omega
  have m1 : min a 256 = a := by omega
  have m2 : min b 2147483648 = b := by omega
  have hmm := @run_makeMap Tryz.prog
  clear hs h1 h2
  go_enter Tryz.func105, Tryz.ntmps105
  go_wp2_with fail
  go_ret
  exact ⟨_, _, rfl, by simpa using H1.out⟩
omit hl in
set_option maxRecDepth 100000 in
theorem cFilUsable (q m : Nat) (a b : Int) (hs : Sts W (blkP q (.cells #[.int .i64 a, .int .i64 b, .map (some m)] 300 (0, 0)) :: l) w) : Calls Tryz.prog 253 #[.pointer (some ⟨q, 0, none⟩)] w fun e w' => e = .returned (.bool true) ∧ w = w' := by
  have k2 := (Sts.boxCell hs 2 _ rfl).1
  clear hs
  have qm : ∀ w, (binOp .neq 298 (.map (some m)) (.map none)).run Tryz.prog w = .ok (.bool true) w := fun _ => by first | rfl | kernel_rfl
  go_enter Tryz.func253, Tryz.ntmps253
  go_wp2_with fail
  go_ret
  exact ⟨rfl, rfl⟩
set_option maxRecDepth 100000 in
set_option maxHeartbeats 2000000 in
theorem cFilClone (q m : Nat) (a b : Int) (hs : Sts W (blkP q (.cells #[.int .i64 a, .int .i64 b, .map (some m)] 300 (0, 0)) :: blkP m (.map #[] 0) :: l) w) (h1 : 0 ≤ a ∧ a ≤ 256) (h2 : 0 ≤ b ∧ b ≤ 2147483648) : Calls Tryz.prog 194 #[.pointer (some ⟨q, 0, none⟩)] w fun e w' => ∃ q', e = .returned (.pointer (some ⟨q', 0, none⟩)) ∧ Sts W (blkP q (.cells #[.int .i64 a, .int .i64 b, .map (some m)] 300 (0, 0)) :: blkP m (.map #[] 0) :: l) w' := by
  have HS := hid hs
  have HL := hid (stabC (blkP_stable q (.cells #[.int .i64 a, .int .i64 b, .map (some m)] 300 (0, 0))) (stabC (blkP_stable m (.map #[] 0)) hl))
  have k0 := (Sts.boxCell hs 0 _ rfl).1
  have k1 := (Sts.boxCell hs 1 _ rfl).1
  have k2 := (Sts.boxCell hs 2 _ rfl).1
  clear hs hl
  go_enter Tryz.func194, Tryz.ntmps194
  go_wp2_with (first | (go_at_call 253; refine (cFilUsable q m a b HS.out).mono ?_; rintro e w2 ⟨rfl, rfl⟩))
  refine wp_region_ord (.pure 0 (.pure 1 (.pure 2 (.pure 3 (.pure 4 (.pure 5 (.pure 6 (.pure 7 (.eff 8 (.pure 9 .nil)))))))))) (fun y => y.cell? ⟨q, 0, none⟩ = some (.int .i64 a) ∧ y.cell? ⟨q, 1, none⟩ = some (.int .i64 b)) (fun y => Sts W (blkP q (.cells #[.int .i64 a, .int .i64 b, .map (some m)] 300 (0, 0)) :: blkP m (.map #[] 0) :: l) y) (by kernel_rfl) (by kernel_rfl) (HS.out.drew HL.out) (fun y hy => ⟨(Sts.boxCell hy 0 _ rfl).1, (Sts.boxCell hy 1 _ rfl).1⟩) ?_
  iterate 8
    (apply ord_pure (ho := rfl)
     · go_simp
     · intro x hx; obtain ⟨k0, k1⟩ := hx; go_simp; rfl
     apply ord_norm
     · go_simp; rfl)
  apply ord_eff (ho := rfl)
  · go_simp
  intro y hy
  refine eff_call (f := 105) (by go_simp) (cFilNew HL.out hy a b h1 h2) ?_
  rintro e w3 ⟨q2, m2, rfl, h3⟩
  refine ⟨_, rfl, (fun y => y.cell? ⟨q, 0, none⟩ = some (.int .i64 a) ∧ y.cell? ⟨q, 1, none⟩ = some (.int .i64 b)), (fun y => Sts W (blkP q2 (.cells #[.int .i64 a, .int .i64 b, .map (some m2)] 300 (0, 0)) :: blkP m2 (.map #[] 0) :: blkP q (.cells #[.int .i64 a, .int .i64 b, .map (some m)] 300 (0, 0)) :: blkP m (.map #[] 0) :: l) y), h3, (fun y hy => ⟨(Sts.boxCell hy.tail.tail 0 _ rfl).1, (Sts.boxCell hy.tail.tail 1 _ rfl).1⟩), (fun _ h => h), ?_⟩
  clear h3 hy y
  apply ord_norm
  · go_simp; rfl
  iterate 1
    (apply ord_pure (ho := rfl)
     · go_simp
     · intro x hx; go_simp; rfl
     apply ord_norm
     · go_simp; rfl)
  refine ord_nil fun z hz => ?_
  have HZ := hid hz.tail.tail
  have k2 : z.cell? ⟨q, 2, none⟩ = some (.map (some m)) := (Sts.boxCell HZ.out 2 _ rfl).1
  have hm : z.heap[m]? = some (.map #[] 0) := by obtain ⟨F, hF⟩ := HZ.out.tail.head; exact hF.1
  clear hz
  have hr := run_range_map (P := Tryz.prog) z 298 9 35 m #[] 0 Tryz.underlying298 hm
  have hn := fun ty => run_next_empty (P := Tryz.prog) z ty m hm
  have HE := hid (Sts.box HL.out HZ.out (.mapIter (some m) 0 #[] 0))
  clear hm
  go_wp2_with fail
  go_loopw [4] (fun _ wr => wr = z.alloc (.mapIter (some m) 0 #[] 0)) (fun _ _ => 0)
  case atStart => rfl
  case round =>
    obtain rfl := hrel
    go_wp2_with fail
    go_ret
    exact ⟨_, rfl, HE.out⟩
end
end Go.Proofs.YtnklmadmenkdoaaGreat
namespace Go.Proofs.YtnklmadmenkdoaaGreat
open Go.RowKit Go.Proofs.Num
set_option maxRecDepth 100000 in
theorem infoCfg : (Tryz.prog.info? 29).map (·.size) = some 3 := by kernel_rfl
theorem ldCfg {W w : World} {l : List HProp} {b : Nat} {x y z : Value} (h : Sts W (blkP b (.cells #[x, y, z] 29 (0, 0)) :: l) w) : (loadVar 29 ⟨b, 0, none⟩).run Tryz.prog w = .ok (.agg #[x, y, z]) w := by
  have hb : w.heap[b]? = some (.cells #[x, y, z] 29 (0, 0)) := by obtain ⟨F, hF⟩ := h.head; exact hF.1
  exact run_loadVar_row (P := Tryz.prog) w b 29 29 #[x, y, z] (0, 0) _ hb Tryz.underlying29 rfl (by rw [infoCfg]; rfl)
section
variable {W w : World} {l : List HProp} (hl : ∀ B ∈ l, Stable B)
include hl
set_option maxRecDepth 100000 in
set_option maxHeartbeats 2000000 in
theorem cCouNew (self chunk to re : Int) (q m : Nat) (a b : Int) (hs : Sts W (blkP q (.cells #[.int .i64 a, .int .i64 b, .map (some m)] 300 (0, 0)) :: blkP m (.map #[] 0) :: l) w) (h1 : 0 ≤ a ∧ a ≤ 256) (h2 : 0 ≤ b ∧ b ≤ 2147483648)
    (h3 : 0 ≤ self ∧ self ≤ 15) (h4 : 1 ≤ chunk ∧ chunk ≤ 512) (h5 : 1 ≤ to ∧ to ≤ 1048576) (h6 : 0 ≤ re ∧ re ≤ 255) :
    Calls Tryz.prog 104 #[.int .i64 self, .pointer (some ⟨q, 0, none⟩), .agg #[.int .i64 chunk, .int .i64 to, .int .i64 re]] w fun e w' => ∃ c m1 m2 m3, e = .returned (.tuple #[.pointer (some ⟨c, 0, none⟩), .int .i64 0]) ∧
      Sts W (blkP c (.cells #[.bool true, .int .i64 self, .pointer (some ⟨q, 0, none⟩), .int .i64 chunk, .int .i64 to, .int .i64 re, .int .i64 0, .int .i64 1, .map (some m1), .map (some m2), .map (some m3), .slice none 0 0, .slice none 0 0, .bool false, .pointer none] 253 (0, 0)) :: blkP m3 (.map #[] 0) :: blkP m2 (.map #[] 0) :: blkP m1 (.map #[] 0) :: blkP q (.cells #[.int .i64 a, .int .i64 b, .map (some m)] 300 (0, 0)) :: blkP m (.map #[] 0) :: l) w' := by
  have HL := hid (stabC (blkP_stable q (.cells #[.int .i64 a, .int .i64 b, .map (some m)] 300 (0, 0))) (stabC (blkP_stable m (.map #[] 0)) hl))
  have HA := hs.alloc HL.out (.cells #[.int .i64 chunk, .int .i64 to, .int .i64 re] 29)
  have k0 := (Sts.boxCell HA 0 _ rfl).1
  have k1 := (Sts.boxCell HA 1 _ rfl).1
  have k2 := (Sts.boxCell HA 2 _ rfl).1
  have HS := hid (Sts.third' HA)
  have hlc := hid (stabC (blkP_stable w.heap.size (.cells #[.int .i64 chunk, .int .i64 to, .int .i64 re] 29 (0, 0))) hl)
  clear HA
  have d1 : decide (self < 0) = false := decide_eq_false (by omega)
  have d2 : decide (15 < self) = false := decide_eq_false (by omega)
  have d3 : decide (chunk < 1) = false := decide_eq_false (by omega)
  have d4 : decide (512 < chunk) = false := decide_eq_false (by omega)
  have d5 : decide (to < 1) = false := decide_eq_false (by omega)
  have d6 : decide (1048576 < to) = false := decide_eq_false (by omega)
  have d7 : decide (re < 0) = false := decide_eq_false (by omega)
  have d8 : decide (255 < re) = false := decide_eq_false (by omega)
  have hmm := @run_makeMap Tryz.prog
  clear hs h3 h4 h5 h6
  go_enter Tryz.func104, Tryz.ntmps104
  go_wp2_with (first | (go_at_call 194; refine (cFilClone hlc.out q m a b HS.out h1 h2).mono ?_; rintro e w2 ⟨q', rfl, hc⟩; have HC := hid hc; clear hc) | (refine wpList_ldS rfl (.tmp 5) 29 rfl rfl (.agg #[.int .i64 chunk, .int .i64 to, .int .i64 re]) (ldCfg (Sts.third HC.out)) ?_))
  go_ret2
  have HLC := stabC (blkP_stable q (.cells #[.int .i64 a, .int .i64 b, .map (some m)] 300 (0, 0))) (stabC (blkP_stable m (.map #[] 0)) hlc.out)
  have g1 := HC.out.alloc HLC (.map #[] 0)
  have g2 := g1.alloc (stabC (blkP_stable _ _) HLC) (.map #[] 0)
  have g3 := g2.alloc (stabC (blkP_stable _ _) (stabC (blkP_stable _ _) HLC)) (.map #[] 0)
  have g4 := g3.alloc (stabC (blkP_stable _ _) (stabC (blkP_stable _ _) (stabC (blkP_stable _ _) HLC))) (.cells #[.bool true, .int .i64 self, .pointer (some ⟨q, 0, none⟩), .int .i64 chunk, .int .i64 to, .int .i64 re, .int .i64 0, .int .i64 1, .map (some w2.heap.size), .map (some (w2.heap.size + 1)), .map (some (w2.heap.size + 1 + 1)), .slice none 0 0, .slice none 0 0, .bool false, .pointer none] 253)
  have g5 := (g4.perm (show (_ :: _ :: _ :: _ :: _ :: _ :: _ :: l).Perm (_ :: _ :: _ :: _ :: _ :: _ :: _ :: l) from List.perm_middle (l₁ := [_, _, _, _, _, _]))).tail
  have e1 : (w2.alloc (.map #[] 0)).heap.size = w2.heap.size + 1 := Array.size_push ..
  have e2 : ((w2.alloc (.map #[] 0)).alloc (.map #[] 0)).heap.size = w2.heap.size + 1 + 1 := by show (Array.push _ _).size = _; rw [Array.size_push, e1]
  have e3 : (((w2.alloc (.map #[] 0)).alloc (.map #[] 0)).alloc (.map #[] 0)).heap.size = w2.heap.size + 1 + 1 + 1 := by show (Array.push _ _).size = _; rw [Array.size_push, e2]
  rw [e1, e2, e3] at g5
  exact ⟨_, _, _, _, rfl, g5⟩
end
end Go.Proofs.YtnklmadmenkdoaaGreat
namespace Go.Proofs.YtnklmadmenkdoaaGreat
open Go.RowKit Go.Proofs.Num
/-- A file entity without transactions: its blocks. -/
def couL (self chunk to re : Int) (c m1 m2 m3 q m : Nat) : List HProp :=
  [blkP c (.cells #[.bool true, .int .i64 self, .pointer (some ⟨q, 0, none⟩), .int .i64 chunk, .int .i64 to, .int .i64 re, .int .i64 0, .int .i64 1, .map (some m1), .map (some m2), .map (some m3), .slice none 0 0, .slice none 0 0, .bool false, .pointer none] 253 (0, 0)), blkP m3 (.map #[] 0), blkP m2 (.map #[] 0), blkP m1 (.map #[] 0), blkP q (.cells #[.int .i64 256, .int .i64 4194304, .map (some m)] 300 (0, 0)), blkP m (.map #[] 0)]
section
variable {W w : World} {l : List HProp} (hl : ∀ B ∈ l, Stable B)
include hl
set_option maxRecDepth 100000 in
set_option maxHeartbeats 2000000 in
theorem cEntity (chunk to re : Int) (hs : Sts W l w) (h4 : 1 ≤ chunk ∧ chunk ≤ 512) (h5 : 1 ≤ to ∧ to ≤ 1048576) (h6 : 0 ≤ re ∧ re ≤ 255) :
    Calls Tryz.prog 38 #[.agg #[.int .i64 chunk, .int .i64 to, .int .i64 re]] w fun e w' => ∃ c m1 m2 m3 q m, e = .returned (.tuple #[.pointer (some ⟨c, 0, none⟩), .int .i64 0]) ∧ Sts W (couL 1 chunk to re c m1 m2 m3 q m ++ l) w' := by
  have HS := hid (hs.alloc hl (.cells #[.int .i64 chunk, .int .i64 to, .int .i64 re] 29))
  have HL := hid (stabC (blkP_stable w.heap.size (.cells #[.int .i64 chunk, .int .i64 to, .int .i64 re] 29 (0, 0))) hl)
  clear hs
  go_enter Tryz.func38, Tryz.ntmps38
  go_wp2_with fail
  refine wp_region_ord (.pure 1 (.eff 0 (.eff 2 (.pure 3 (.pure 4 (.pure 5 (.pure 6 .nil))))))) (fun y => (loadVar 29 ⟨w.heap.size, 0, none⟩).run Tryz.prog y = .ok (.agg #[.int .i64 chunk, .int .i64 to, .int .i64 re]) y) (fun y => Sts W (blkP w.heap.size (.cells #[.int .i64 chunk, .int .i64 to, .int .i64 re] 29 (0, 0)) :: l) y) (by kernel_rfl) (by kernel_rfl) (HS.out.drew HL.out) (fun y hy => ldCfg hy) ?_
  apply ord_pure (ho := rfl)
  · go_simp
  · exact fun x hx => exec_ldS (.tmp 1) 29 rfl rfl hx
  apply ord_norm
  · go_simp; rfl
  apply ord_eff (ho := rfl)
  · go_simp
  intro y hy
  refine eff_call (f := 105) (by go_simp) (cFilNew HL.out hy 256 4194304 (by omega) (by omega)) ?_
  rintro e w3 ⟨q, m, rfl, h3⟩
  refine ⟨_, rfl, (fun y => (loadVar 29 ⟨w.heap.size, 0, none⟩).run Tryz.prog y = .ok (.agg #[.int .i64 chunk, .int .i64 to, .int .i64 re]) y), (fun y => Sts W (blkP q (.cells #[.int .i64 256, .int .i64 4194304, .map (some m)] 300 (0, 0)) :: blkP m (.map #[] 0) :: blkP w.heap.size (.cells #[.int .i64 chunk, .int .i64 to, .int .i64 re] 29 (0, 0)) :: l) y), h3, (fun y hy => ldCfg hy.tail.tail), (fun _ h => h), ?_⟩
  clear h3 hy y
  apply ord_norm
  · go_simp; rfl
  apply ord_eff (ho := rfl)
  · go_simp
  intro y hy
  refine eff_call (f := 104) (by go_simp) (cCouNew HL.out 1 chunk to re q m 256 4194304 hy (by omega) (by omega) (by omega) h4 h5 h6) ?_
  rintro e w4 ⟨c, m1, m2, m3, rfl, h3⟩
  refine ⟨_, rfl, (fun y => (loadVar 29 ⟨w.heap.size, 0, none⟩).run Tryz.prog y = .ok (.agg #[.int .i64 chunk, .int .i64 to, .int .i64 re]) y), (fun y => Sts W (couL 1 chunk to re c m1 m2 m3 q m ++ (blkP w.heap.size (.cells #[.int .i64 chunk, .int .i64 to, .int .i64 re] 29 (0, 0)) :: l)) y), h3, (fun y hy => ldCfg (hy.perm List.perm_middle)), (fun _ h => h), ?_⟩
  clear h3 hy y
  apply ord_norm
  · go_simp; rfl
  iterate 4
    (apply ord_pure (ho := rfl)
     · go_simp
     · intro x hx; go_simp; rfl
     apply ord_norm
     · go_simp; rfl)
  refine ord_nil fun z hz => ?_
  have HZ := hid ((hz.perm List.perm_middle).tail)
  clear hz
  go_wp2_with fail
  go_ret2
  exact ⟨c, m1, m2, m3, q, m, rfl, HZ.out⟩
end
end Go.Proofs.YtnklmadmenkdoaaGreat
namespace Go.Proofs.YtnklmadmenkdoaaGreat
open Go.RowKit Go.Proofs.Num
noncomputable def prC : Go.Ev.Prims := Go.Ev.rfPrF Tryz.prog 100000 218
noncomputable def ihR : Go.Ev.Rn := Go.Ev.runF Tryz.prog prC 100000
theorem prC_ok : Go.Ev.SoundPr Tryz.prog prC := Go.Ev.rfPrF_ok (by kernel_rfl) _ _
theorem ihR_sound : Go.Ev.SoundRn Tryz.prog ihR := Go.Ev.runF_sound (by kernel_rfl) prC_ok _
noncomputable def couV (t : Nat) : List Go.Ev.V := [.bool true, .int .i64 (.ofNat 1), .ptr 4 0, .int .i64 (.ofNat 64), .int .i64 (.ofNat 40), .int .i64 (.ofNat 10), .int .i64 (.ofNat t), .int .i64 (.ofNat 1), .map 1, .map 2, .map 3, .nils, .nils, .bool false, .nilp]
noncomputable def couB (t : Nat) : List (Nat × Go.Ev.B) := [(5, .map [] 0), (4, .cells (Go.Ev.tree [.int .i64 (.ofNat 256), .int .i64 (.ofNat 4194304), .map 5]) 3), (3, .map [] 0), (2, .map [] 0), (1, .map [] 0), (0, .cells (Go.Ev.tree (couV t)) 15)]
noncomputable def pdu0V : List Go.Ev.V := [.int .i64 (.ofNat 0), .int .i64 (.ofNat 0), .int .i64 (.ofNat 0), .int .i64 (.ofNat 0), .str ⟨#[]⟩, .int .i64 (.ofNat 0), .int .i64 (.ofNat 0), .nils, .int .u32 (.ofNat 0), .int .i64 (.ofNat 0), .nils]
noncomputable def couS (t : Nat) : Go.Ev.Summ := ⟨[.ptr 0 0, .int .i64 (.ofNat (t + 1))], couB t, 6 + 20 * t, .tup [.agg pdu0V, .bool false], couB (t + 1), 6 + 20 * (t + 1)⟩
noncomputable def couC (t : Nat) : Bool := Go.Ev.goodB (Go.Ev.callV 54 (couS t).args Tryz.prog prC ihR (couS t).hp (couS t).s (Go.Ev.sumK (couS t)))
set_option maxRecDepth 1000000 in
theorem cou_all : (List.range 20).all couC = true := by kernel_rfl
theorem cou_ok (t : Nat) (ht : t < 20) : Go.Ev.SummOk Tryz.prog 54 (couS t) :=
  Go.Ev.summ_ok ihR_sound prC_ok (by rw [Nat.ble_eq]; show 6 + 20 * t ≤ 6 + 20 * (t + 1); omega) (List.all_eq_true.1 cou_all t (List.mem_range.2 ht))
/-- The idle entity at block c at the time t. -/
def couP (c t : Nat) : HProp := fun w F => ∃ f, f 0 = some ⟨c, 0, 15⟩ ∧ Go.Ev.simP (fun _ => 0) f ((couS t).hp) (6 + 20 * t) w F
theorem couP_stable (c t : Nat) : Stable (couP c t) where
  dom := by rintro w F ⟨f, _, h⟩; exact (Go.Ev.simP_stable _ _ _ _).dom h
  keep := by rintro w w' F S ⟨f, h1, h⟩ hk hS; exact ⟨f, h1, (Go.Ev.simP_stable _ _ _ _).keep h hk hS⟩
theorem cou_hq (t : Nat) : (couS t).hq = (couS (t + 1)).hp := rfl
def pdu0 : Array Value := #[.int .i64 0, .int .i64 0, .int .i64 0, .int .i64 0, .string ⟨#[]⟩, .int .i64 0, .int .i64 0, .slice none 0 0, .int .u32 0, .int .i64 0, .slice none 0 0]
theorem pdu0_of {e : Go.Ev.Env} {x : Value} (h : Go.Ev.VR e (.tup [.agg pdu0V, .bool false]) x) : x = .tuple #[.agg pdu0, .bool false] := by
  cases h with
  | tup h =>
    cases h with
    | cons a r =>
      cases r with
      | cons b r =>
        cases r
        cases b
        cases a with
        | agg h =>
          unfold pdu0V at h
          cases h with
          | cons a0 h => cases h with
            | cons a1 h => cases h with
              | cons a2 h => cases h with
                | cons a3 h => cases h with
                  | cons a4 h => cases h with
                    | cons a5 h => cases h with
                      | cons a6 h => cases h with
                        | cons a7 h => cases h with
                          | cons a8 h => cases h with
                            | cons a9 h => cases h with
                              | cons a10 h =>
                                cases h
                                cases a0; cases a1; cases a2; cases a3; cases a4; cases a5; cases a6; cases a7; cases a8; cases a9; cases a10
                                rfl
theorem cCouNext {W w : World} {l : List HProp} (hl : ∀ B ∈ l, Stable B) (c t : Nat) (ht : t < 20) (hs : Sts W (couP c t :: l) w) :
    Calls Tryz.prog 54 #[.pointer (some ⟨c, 0, none⟩), .int .i64 ((t + 1 : Nat) : Int)] w fun e w' => e = .returned (.tuple #[.agg pdu0, .bool false]) ∧ Sts W (couP c (t + 1) :: l) w' := by
  obtain ⟨F, ⟨F1, F2, ⟨f, hf, h⟩, r⟩, hb, hn⟩ := hs
  have hs' : Sts W (Go.Ev.simP (fun _ => 0) f ((couS t).hp) (6 + 20 * t) :: l) w := ⟨F, ⟨F1, F2, h, r⟩, hb, hn⟩
  have hx : Go.Ev.VRs ⟨f, Go.Ev.numB (fun _ => 0)⟩ (couS t).args [.pointer (some ⟨c, 0, none⟩), .int .i64 ((t + 1 : Nat) : Int)] := .cons (.ptr (sh := 0) (sz := 15) hf) (.cons (.int _ _) .nil)
  refine (Sts.call hl hs' (Go.Ev.sum_spec (cou_ok t ht) (fun _ => 0) f hx)).mono ?_
  rintro e w' ⟨⟨f', x⟩, rfl, hq⟩
  obtain ⟨G, ⟨G1, G2, ⟨hv, hlow, hsim⟩, r'⟩, hb', hn'⟩ := hq
  have hv' : x = .tuple #[.agg pdu0, .bool false] := pdu0_of hv
  refine ⟨by rw [← hv'], G, ⟨G1, G2, ⟨f', (hlow 0 (by show 0 < 6 + 20 * t; omega)).trans hf, ?_⟩, r'⟩, hb', hn'⟩
  have h2 : Go.Ev.simP (fun _ => 0) f' (couS t).hq (6 + 20 * (t + 1)) w' G1 := hsim
  rw [cou_hq] at h2
  exact h2
theorem Sts.pack {W w : World} {m l : List HProp} {A : HProp} (h : Sts W (m ++ l) w) (hA : ∀ F, stars m w F → A w F) : Sts W (A :: l) w := by
  obtain ⟨F, a, b, c⟩ := h
  exact ⟨F, star_mono hA (fun _ h => h) (stars_app.1 a), b, c⟩
def couO (c m1 m2 m3 q m : Nat) : List (Nat × Obj) := [(c, .cells #[.bool true, .int .i64 1, .pointer (some ⟨q, 0, none⟩), .int .i64 64, .int .i64 40, .int .i64 10, .int .i64 0, .int .i64 1, .map (some m1), .map (some m2), .map (some m3), .slice none 0 0, .slice none 0 0, .bool false, .pointer none] 253 (0, 0)), (m1, .map #[] 0), (m2, .map #[] 0), (m3, .map #[] 0), (q, .cells #[.int .i64 256, .int .i64 4194304, .map (some m)] 300 (0, 0)), (m, .map #[] 0)]
set_option maxRecDepth 1000000 in
theorem cou_h0 : (couS 0).hp.get .gone 0 = .cells (Go.Ev.tree (couV 0)) 15 := by kernel_rfl
set_option maxRecDepth 1000000 in
theorem cou_h1 : (couS 0).hp.get .gone 1 = .map [] 0 := by kernel_rfl
set_option maxRecDepth 1000000 in
theorem cou_h2 : (couS 0).hp.get .gone 2 = .map [] 0 := by kernel_rfl
set_option maxRecDepth 1000000 in
theorem cou_h3 : (couS 0).hp.get .gone 3 = .map [] 0 := by kernel_rfl
set_option maxRecDepth 1000000 in
theorem cou_h4 : (couS 0).hp.get .gone 4 = .cells (Go.Ev.tree [.int .i64 (.ofNat 256), .int .i64 (.ofNat 4194304), .map 5]) 3 := by kernel_rfl
set_option maxRecDepth 1000000 in
theorem cou_h5 : (couS 0).hp.get .gone 5 = .map [] 0 := by kernel_rfl
theorem cou_new {W w : World} {l : List HProp} {c m1 m2 m3 q m : Nat} (h : Sts W (couL 1 64 40 10 c m1 m2 m3 q m ++ l) w) : Sts W (couP c 0 :: l) w := by
  have hp : (couL 1 64 40 10 c m1 m2 m3 q m).Perm ((couO c m1 m2 m3 q m).map (fun p => blkP p.1 p.2)) :=
    List.Perm.cons _ (((List.perm_append_comm (l₁ := [_, _]) (l₂ := [_])).trans ((List.Perm.swap _ _ []).cons _)).append_right [_, _])
  have h1 : Sts W ((couO c m1 m2 m3 q m).map (fun p => blkP p.1 p.2) ++ l) w := h.perm (hp.append_right l)
  refine Sts.pack h1 (fun F hF => ⟨Go.Ev.locsF (couO c m1 m2 m3 q m), rfl, Go.Ev.simP_of hF (show 6 ≤ 6 by decide) ?_ ?_⟩)
  · intro b
    constructor
    · intro hb
      rcases Go.Ev.fold_live (couS 0).l Go.Ev.E0 b hb with h1 | ⟨p, h1, h2⟩
      · exact (Go.Ev.E0_gone b h1).elim
      · show b < 6
        rw [← h2]
        have h3 : p ∈ couB 0 := h1
        simp only [couB, List.mem_cons, List.not_mem_nil, or_false] at h3
        rcases h3 with rfl | rfl | rfl | rfl | rfl | rfl
        all_goals simp
    · intro hb
      have hb6 : b < 6 := hb
      show (couS 0).hp.get .gone b ≠ .gone
      match b, hb6 with
      | 0, _ => rw [cou_h0]; intro h; cases h
      | 1, _ => rw [cou_h1]; intro h; cases h
      | 2, _ => rw [cou_h2]; intro h; cases h
      | 3, _ => rw [cou_h3]; intro h; cases h
      | 4, _ => rw [cou_h4]; intro h; cases h
      | 5, _ => rw [cou_h5]; intro h; cases h
  · intro b hb
    have hb6 : b < 6 := hb
    match b, hb6 with
    | 0, _ =>
      show Go.Ev.BR _ ⟨c, 0, 15⟩ ((couS 0).hp.get .gone 0) _
      rw [cou_h0]
      refine .cells rfl (by decide) (fun i hi => ?_) (fun i hi => (Go.Ev.tree_has _ _).2 hi) (Or.inl rfl)
      rw [Go.Ev.tree_get _ _ hi]
      match i, hi with
      | 0, _ => exact ⟨_, rfl, .bool true⟩
      | 1, _ => exact ⟨_, rfl, .int _ _⟩
      | 2, _ => exact ⟨_, rfl, .ptr (sh := 0) (sz := 3) rfl⟩
      | 3, _ => exact ⟨_, rfl, .int _ _⟩
      | 4, _ => exact ⟨_, rfl, .int _ _⟩
      | 5, _ => exact ⟨_, rfl, .int _ _⟩
      | 6, _ => exact ⟨_, rfl, .int _ _⟩
      | 7, _ => exact ⟨_, rfl, .int _ _⟩
      | 8, _ => exact ⟨_, rfl, .map (sh := 0) (sz := 0) rfl⟩
      | 9, _ => exact ⟨_, rfl, .map (sh := 0) (sz := 0) rfl⟩
      | 10, _ => exact ⟨_, rfl, .map (sh := 0) (sz := 0) rfl⟩
      | 11, _ => exact ⟨_, rfl, .nils⟩
      | 12, _ => exact ⟨_, rfl, .nils⟩
      | 13, _ => exact ⟨_, rfl, .bool false⟩
      | 14, _ => exact ⟨_, rfl, .nilp⟩
    | 1, _ => show Go.Ev.BR _ ⟨m1, 0, 0⟩ ((couS 0).hp.get .gone 1) (.map ⟨[]⟩ 0); rw [cou_h1]; exact .map .nil
    | 2, _ => show Go.Ev.BR _ ⟨m2, 0, 0⟩ ((couS 0).hp.get .gone 2) (.map ⟨[]⟩ 0); rw [cou_h2]; exact .map .nil
    | 3, _ => show Go.Ev.BR _ ⟨m3, 0, 0⟩ ((couS 0).hp.get .gone 3) (.map ⟨[]⟩ 0); rw [cou_h3]; exact .map .nil
    | 4, _ =>
      show Go.Ev.BR _ ⟨q, 0, 3⟩ ((couS 0).hp.get .gone 4) _
      rw [cou_h4]
      refine .cells rfl (by decide) (fun i hi => ?_) (fun i hi => (Go.Ev.tree_has _ _).2 hi) (Or.inl rfl)
      rw [Go.Ev.tree_get _ _ hi]
      match i, hi with
      | 0, _ => exact ⟨_, rfl, .int _ _⟩
      | 1, _ => exact ⟨_, rfl, .int _ _⟩
      | 2, _ => exact ⟨_, rfl, .map (sh := 0) (sz := 0) rfl⟩
    | 5, _ => show Go.Ev.BR _ ⟨m, 0, 0⟩ ((couS 0).hp.get .gone 5) (.map ⟨[]⟩ 0); rw [cou_h5]; exact .map .nil
end Go.Proofs.YtnklmadmenkdoaaGreat
