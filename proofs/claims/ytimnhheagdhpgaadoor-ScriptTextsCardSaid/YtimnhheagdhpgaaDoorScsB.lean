/- The specification's comparison of acts. -/
import Derived.Test.YtimnhheagdhpgaaDoorScsA
set_option linter.unusedVariables false
set_option linter.unusedSimpArgs false
namespace Go.Proofs.YtimnhheagdhpgaaDoor
open Go.RowKit Go.Proofs.Num
open Scr (Str bs numV numsV small svcV fltV nameV bytesV oneV fileV faultV orderV tailV flts parseL parseV b8 textV textL)
section
variable {w : World}
set_option maxRecDepth 100000 in
set_option maxHeartbeats 16000000 in
theorem cSame58 (a b : Scr.Act) (dv av cv dv' av' cv' : Value) (hA : ActV w a dv av cv) (hB : ActV w b dv' av' cv') (hl : a.args.length < 1000000) (hl2 : b.args.length < 1000000) :
    Calls Tryd.prog 23 #[.agg (actC a dv av cv), .agg (actC b dv' av' cv')] w fun e w' => e = .returned (.bool (decide (a = b))) ∧ Below w.heap.size w w' := by
  obtain ⟨hd1, ha1, hq1⟩ := hA
  obtain ⟨hd2, ha2, hq2⟩ := hB
  obtain ⟨da1, dc1, rfl⟩ := hd1.eq
  obtain ⟨da2, dc2, rfl⟩ := hd2.eq
  obtain ⟨aa1, ac1, rfl⟩ := ha1.eq
  obtain ⟨aa2, ac2, rfl⟩ := ha2.eq
  obtain ⟨qa1, qc1, rfl⟩ := hq1.eq
  obtain ⟨qa2, qc2, rfl⟩ := hq2.eq
  cases a with | mk k1 n1 m1 d1 s1 u1 v1 l1 q1 x1 y1 z1 =>
  cases b with | mk k2 n2 m2 d2 s2 u2 v2 l2 q2 x2 y2 z2 =>
  simp only at hd1 ha1 hq1 hd2 ha2 hq2 hl hl2
  have hc : ∀ y, Below w.heap.size w y → Calls Tryd.prog 42 #[.agg #[.int .i64 s1, .int .i64 u1, .int .i64 v1, .slice aa1 (intsV l1).length ac1, .slice qa1 (u8v q1).length qc1], .agg #[.int .i64 s2, .int .i64 u2, .int .i64 v2, .slice aa2 (intsV l2).length ac2, .slice qa2 (u8v q2).length qc2]] y fun e w' => e = .returned (.bool (decide (s1 = s2 ∧ u1 = u2 ∧ v1 = v2 ∧ l1 = l2 ∧ q1 = q2))) ∧ Below y.heap.size y w' := fun y hy => by
    rw [intsV_len, intsV_len]
    rw [intsV_len] at ha1 ha2
    exact cSame39 (w := y) s1 u1 v1 s2 u2 v2 l1 l2 q1 q2 aa1 aa2 ac1 ac2 _ _ (ha1.below hy) (ha2.below hy) (hq1.below hy) (hq2.below hy) hl hl2
  have hc1 : ∀ y, Below w.heap.size w y → (convert 22 9 (.slice da1 (u8v d1).length dc1)).run Tryd.prog y = .ok (.string ⟨d1.toArray⟩) y := fun y hy => conv_bytes (hd1.below hy)
  have hc2 : ∀ y, Below w.heap.size w y → (convert 22 9 (.slice da2 (u8v d2).length dc2)).run Tryd.prog y = .ok (.string ⟨d2.toArray⟩) y := fun y hy => conv_bytes (hd2.below hy)
  simp only [actC]
  clear hd1 hd2 ha1 ha2 hq1 hq2
  generalize (intsV l1).length = L1 at *
  generalize (intsV l2).length = L2 at *
  generalize (u8v d1).length = D1 at *
  generalize (u8v d2).length = D2 at *
  generalize (u8v q1).length = Q1 at *
  generalize (u8v q2).length = Q2 at *
  have HB0 : Below w.heap.size w ((w.alloc (.cells #[.int .i64 k1, .int .i64 n1, .string ⟨m1.toArray⟩, .slice da1 D1 dc1, .int .i64 s1, .int .i64 u1, .int .i64 v1, .slice aa1 L1 ac1, .slice qa1 Q1 qc1, .int .i64 x1, .int .i64 y1, .int .i64 z1] 29)).alloc (.cells #[.int .i64 k2, .int .i64 n2, .string ⟨m2.toArray⟩, .slice da2 D2 dc2, .int .i64 s2, .int .i64 u2, .int .i64 v2, .slice aa2 L2 ac2, .slice qa2 Q2 qc2, .int .i64 x2, .int .i64 y2, .int .i64 z2] 29)) := ((Below.refl _ _).alloc (Nat.le_refl _) _).alloc (by simp) _
  have e1 := hc1 _ HB0
  have e2 := hc2 _ HB0
  have HC := hid (hc _ HB0)
  have HB := hid HB0
  have HS2 := hid (((Sts.nil w).alloc stab0 (.cells #[.int .i64 k1, .int .i64 n1, .string ⟨m1.toArray⟩, .slice da1 D1 dc1, .int .i64 s1, .int .i64 u1, .int .i64 v1, .slice aa1 L1 ac1, .slice qa1 Q1 qc1, .int .i64 x1, .int .i64 y1, .int .i64 z1] 29)).alloc (stab1 (blkP_stable _ _)) (.cells #[.int .i64 k2, .int .i64 n2, .string ⟨m2.toArray⟩, .slice da2 D2 dc2, .int .i64 s2, .int .i64 u2, .int .i64 v2, .slice aa2 L2 ac2, .slice qa2 Q2 qc2, .int .i64 x2, .int .i64 y2, .int .i64 z2] 29))
  rw [size_alloc] at HS2
  have HCELL := hid (show ∀ y, Below ((w.alloc (.cells #[.int .i64 k1, .int .i64 n1, .string ⟨m1.toArray⟩, .slice da1 D1 dc1, .int .i64 s1, .int .i64 u1, .int .i64 v1, .slice aa1 L1 ac1, .slice qa1 Q1 qc1, .int .i64 x1, .int .i64 y1, .int .i64 z1] 29)).alloc (.cells #[.int .i64 k2, .int .i64 n2, .string ⟨m2.toArray⟩, .slice da2 D2 dc2, .int .i64 s2, .int .i64 u2, .int .i64 v2, .slice aa2 L2 ac2, .slice qa2 Q2 qc2, .int .i64 x2, .int .i64 y2, .int .i64 z2] 29)).heap.size ((w.alloc (.cells #[.int .i64 k1, .int .i64 n1, .string ⟨m1.toArray⟩, .slice da1 D1 dc1, .int .i64 s1, .int .i64 u1, .int .i64 v1, .slice aa1 L1 ac1, .slice qa1 Q1 qc1, .int .i64 x1, .int .i64 y1, .int .i64 z1] 29)).alloc (.cells #[.int .i64 k2, .int .i64 n2, .string ⟨m2.toArray⟩, .slice da2 D2 dc2, .int .i64 s2, .int .i64 u2, .int .i64 v2, .slice aa2 L2 ac2, .slice qa2 Q2 qc2, .int .i64 x2, .int .i64 y2, .int .i64 z2] 29)) y → (y.cell? ⟨w.heap.size, 9, none⟩ = some (.int .i64 x1) ∧ y.cell? ⟨w.heap.size, 10, none⟩ = some (.int .i64 y1) ∧ y.cell? ⟨w.heap.size, 11, none⟩ = some (.int .i64 z1)) ∧ y.cell? ⟨w.heap.size + 1, 9, none⟩ = some (.int .i64 x2) ∧ y.cell? ⟨w.heap.size + 1, 10, none⟩ = some (.int .i64 y2) ∧ y.cell? ⟨w.heap.size + 1, 11, none⟩ = some (.int .i64 z2) from fun y hy => ⟨⟨cell_below hy (Sts.boxCell HS2.out.swap 9 _ rfl).1, cell_below hy (Sts.boxCell HS2.out.swap 10 _ rfl).1, cell_below hy (Sts.boxCell HS2.out.swap 11 _ rfl).1⟩, cell_below hy (Sts.boxCell HS2.out 9 _ rfl).1, cell_below hy (Sts.boxCell HS2.out 10 _ rfl).1, cell_below hy (Sts.boxCell HS2.out 11 _ rfl).1⟩)
  clear HS2
  obtain ⟨r, hr⟩ : ∃ r, r = decide ((⟨k1, n1, m1, d1, s1, u1, v1, l1, q1, x1, y1, z1⟩ : Scr.Act) = ⟨k2, n2, m2, d2, s2, u2, v2, l2, q2, x2, y2, z2⟩) := ⟨_, rfl⟩
  rw [← hr]
  have hr2 : r = true ↔ (k1 = k2 ∧ n1 = n2 ∧ m1 = m2 ∧ d1 = d2 ∧ s1 = s2 ∧ u1 = u2 ∧ v1 = v2 ∧ l1 = l2 ∧ q1 = q2 ∧ x1 = x2 ∧ y1 = y2 ∧ z1 = z2) := by rw [hr, decide_eq_true_eq, Scr.Act.mk.injEq]
  obtain ⟨g, hg⟩ : ∃ g, g = decide (s1 = s2 ∧ u1 = u2 ∧ v1 = v2 ∧ l1 = l2 ∧ q1 = q2) := ⟨_, rfl⟩
  rw [← hg] at HC
  have hrg : r = decide (k1 = k2 ∧ n1 = n2 ∧ m1 = m2 ∧ d1 = d2 ∧ g = true ∧ x1 = x2 ∧ y1 = y2 ∧ z1 = z2) := by
    rw [Bool.eq_iff_iff, hr2, hg]
    simp only [decide_eq_true_eq]
    constructor
    · rintro ⟨a1, a2, a3, a4, a5, a6, a7, a8, a9, a10, a11, a12⟩; exact ⟨a1, a2, a3, a4, ⟨a5, a6, a7, a8, a9⟩, a10, a11, a12⟩
    · rintro ⟨a1, a2, a3, a4, ⟨a5, a6, a7, a8, a9⟩, a10, a11, a12⟩; exact ⟨a1, a2, a3, a4, a5, a6, a7, a8, a9, a10, a11, a12⟩
  clear hr hr2 hg HB0 hc hc1 hc2 hl hl2
  by_cases h1 : k1 = k2
  case neg =>
    have hr0 : r = false := by rw [hrg]; simp [h1]
    have f1 : (k1 == k2) = false := by simp [h1]
    subst hr0
    clear hrg
    go_enter Tryd.func23, Tryd.ntmps23
    go_wp2_with (first | (go_at_call 42; refine HC.out.mono ?_; rintro e w1 ⟨rfl, hw⟩; have H1 := hid (HB.out.trans (hw.mono HB.out.size)); obtain ⟨⟨t1, t2, t3⟩, t4, t5, t6⟩ := HCELL.out _ hw; clear hw))
    all_goals (go_ret; exact ⟨rfl, HB.out⟩)
  subst h1
  by_cases h2 : n1 = n2
  case neg =>
    have hr0 : r = false := by rw [hrg]; simp [h2]
    have f1 : (n1 == n2) = false := by simp [h2]
    subst hr0
    clear hrg
    go_enter Tryd.func23, Tryd.ntmps23
    go_wp2_with (first | (go_at_call 42; refine HC.out.mono ?_; rintro e w1 ⟨rfl, hw⟩; have H1 := hid (HB.out.trans (hw.mono HB.out.size)); obtain ⟨⟨t1, t2, t3⟩, t4, t5, t6⟩ := HCELL.out _ hw; clear hw))
    all_goals (go_ret; exact ⟨rfl, HB.out⟩)
  subst h2
  by_cases h3 : m1 = m2
  case neg =>
    have hr0 : r = false := by rw [hrg]; simp [h3]
    have f1 : (m1 == m2) = false := by simp [h3]
    subst hr0
    clear hrg
    go_enter Tryd.func23, Tryd.ntmps23
    go_wp2_with (first | (go_at_call 42; refine HC.out.mono ?_; rintro e w1 ⟨rfl, hw⟩; have H1 := hid (HB.out.trans (hw.mono HB.out.size)); obtain ⟨⟨t1, t2, t3⟩, t4, t5, t6⟩ := HCELL.out _ hw; clear hw))
    all_goals (go_ret; exact ⟨rfl, HB.out⟩)
  subst h3
  by_cases h4 : d1 = d2
  case neg =>
    have hr0 : r = false := by rw [hrg]; simp [h4]
    have f1 : (d1 == d2) = false := by simp [h4]
    subst hr0
    clear hrg
    go_enter Tryd.func23, Tryd.ntmps23
    go_wp2_with (first | (go_at_call 42; refine HC.out.mono ?_; rintro e w1 ⟨rfl, hw⟩; have H1 := hid (HB.out.trans (hw.mono HB.out.size)); obtain ⟨⟨t1, t2, t3⟩, t4, t5, t6⟩ := HCELL.out _ hw; clear hw))
    all_goals (go_ret; exact ⟨rfl, HB.out⟩)
  subst h4
  cases g with
  | false =>
    have hr0 : r = false := by rw [hrg]; simp
    subst hr0
    clear hrg
    go_enter Tryd.func23, Tryd.ntmps23
    go_wp2_with (first | (go_at_call 42; refine HC.out.mono ?_; rintro e w1 ⟨rfl, hw⟩; have H1 := hid (HB.out.trans (hw.mono HB.out.size)); obtain ⟨⟨t1, t2, t3⟩, t4, t5, t6⟩ := HCELL.out _ hw; clear hw))
    all_goals (go_ret; exact ⟨rfl, H1.out⟩)
  | true =>
    obtain ⟨f, hf⟩ : ∃ f, f = (x1 == x2 && (y1 == y2 && z1 == z2)) := ⟨_, rfl⟩
    have hr0 : r = f := by rw [hrg, hf, Bool.eq_iff_iff]; simp
    subst hr0
    clear hrg
    by_cases h5 : x1 = x2
    case neg =>
      have f1 : (x1 == x2) = false := by simp [h5]
      have hr1 : r = false := by rw [hf, f1]; rfl
      subst hr1
      clear hf
      go_enter Tryd.func23, Tryd.ntmps23
      go_wp2_with (first | (go_at_call 42; refine HC.out.mono ?_; rintro e w1 ⟨rfl, hw⟩; have H1 := hid (HB.out.trans (hw.mono HB.out.size)); obtain ⟨⟨t1, t2, t3⟩, t4, t5, t6⟩ := HCELL.out _ hw; clear hw))
      all_goals (go_ret; exact ⟨rfl, H1.out⟩)
    subst h5
    by_cases h6 : y1 = y2
    case neg =>
      have f1 : (y1 == y2) = false := by simp [h6]
      have hr1 : r = false := by rw [hf, f1]; simp
      subst hr1
      clear hf
      go_enter Tryd.func23, Tryd.ntmps23
      go_wp2_with (first | (go_at_call 42; refine HC.out.mono ?_; rintro e w1 ⟨rfl, hw⟩; have H1 := hid (HB.out.trans (hw.mono HB.out.size)); obtain ⟨⟨t1, t2, t3⟩, t4, t5, t6⟩ := HCELL.out _ hw; clear hw))
      all_goals (go_ret; exact ⟨rfl, H1.out⟩)
    subst h6
    by_cases h7 : z1 = z2
    case neg =>
      have f1 : (z1 == z2) = false := by simp [h7]
      have hr1 : r = false := by rw [hf, f1]; simp
      subst hr1
      clear hf
      go_enter Tryd.func23, Tryd.ntmps23
      go_wp2_with (first | (go_at_call 42; refine HC.out.mono ?_; rintro e w1 ⟨rfl, hw⟩; have H1 := hid (HB.out.trans (hw.mono HB.out.size)); obtain ⟨⟨t1, t2, t3⟩, t4, t5, t6⟩ := HCELL.out _ hw; clear hw))
      all_goals (go_ret; exact ⟨rfl, H1.out⟩)
    subst h7
    have hr1 : r = true := by rw [hf]; simp
    subst hr1
    clear hf
    go_enter Tryd.func23, Tryd.ntmps23
    go_wp2_with (first | (go_at_call 42; refine HC.out.mono ?_; rintro e w1 ⟨rfl, hw⟩; have H1 := hid (HB.out.trans (hw.mono HB.out.size)); obtain ⟨⟨t1, t2, t3⟩, t4, t5, t6⟩ := HCELL.out _ hw; clear hw))
    all_goals (go_ret; exact ⟨rfl, H1.out⟩)
set_option maxRecDepth 100000 in
set_option maxHeartbeats 4000000 in
theorem cSameR (a b : Scr.Act) (dv av cv dv' av' cv' : Value) (hA : ActV w a dv av cv) (hB : ActV w b dv' av' cv') (hl : a.args.length < 1000000) (hl2 : b.args.length < 1000000) :
    Calls Tryd.prog 10 #[.agg (actC a dv av cv), .agg (actC b dv' av' cv')] w fun e w' => e = .returned (.bool (decide (a = b))) ∧ Below w.heap.size w w' := by
  have HC := hid (fun y (hy : Below w.heap.size w y) => cSame58 (w := y) a b dv av cv dv' av' cv' (hA.below hy) (hB.below hy) hl hl2)
  obtain ⟨cs, hcs⟩ : ∃ cs, cs = actC a dv av cv := ⟨_, rfl⟩
  obtain ⟨cs', hcs'⟩ : ∃ cs', cs' = actC b dv' av' cv' := ⟨_, rfl⟩
  obtain ⟨r, hr⟩ : ∃ r, r = decide (a = b) := ⟨_, rfl⟩
  rw [← hcs, ← hcs', ← hr] at HC ⊢
  have hz : cs.size = 12 := by rw [hcs]; rfl
  have hz' : cs'.size = 12 := by rw [hcs']; rfl
  have HS := hid ((Sts.nil w).alloc stab0 (.cells cs 29))
  have HS2 := hid (HS.out.alloc (stab1 (blkP_stable _ _)) (.cells cs' 29))
  rw [size_alloc] at HS2
  have HLD := hid (ldAct hz HS2.out.swap)
  have HLD2 := hid (ldAct hz' HS2.out)
  clear hcs hcs' hr hA hB hz hz'
  go_enter Tryd.func10, Tryd.ntmps10
  go_wp2_with (first | (refine wpList_ld rfl (.tmp 2) 29 rfl rfl (.agg cs) HLD.out ?_) | (refine wpList_ld rfl (.tmp 3) 29 rfl rfl (.agg cs') HLD2.out ?_) | (go_at_call 23; refine (HC.out _ HS2.out.below).mono ?_; rintro e w1 ⟨rfl, hw⟩; have H1 := hid (HS2.out.below.trans (hw.mono HS2.out.below.size)); clear hw))
  all_goals (go_ret; exact ⟨rfl, H1.out⟩)
end
end Go.Proofs.YtimnhheagdhpgaaDoor
