/- script.same. -/
import Derived.Test.YtimnhheagdhpgaaDoorSclB
set_option linter.unusedVariables false
set_option linter.unusedSimpArgs false
namespace Go.Proofs.YtimnhheagdhpgaaDoor
open Go.RowKit Go.Proofs.Num
open Scr (Str bs parseV textV lineV)
set_option maxRecDepth 100000 in
theorem ld_cmd4 {w : World} {b : Nat} {x y z : Int} {p q : Value} (hp : ∃ a n c, p = .slice a n c) (hq : ∃ a n c, q = .slice a n c) (h0 : w.cell? ⟨b, 4, none⟩ = some (.int .i64 x)) (h1 : w.cell? ⟨b, 5, none⟩ = some (.int .i64 y)) (h2 : w.cell? ⟨b, 6, none⟩ = some (.int .i64 z)) (h3 : w.cell? ⟨b, 7, none⟩ = some p) (h4 : w.cell? ⟨b, 8, none⟩ = some q) : (loadVar 25 ⟨b, 4, none⟩).run Tryd.prog w = .ok (.agg #[.int .i64 x, .int .i64 y, .int .i64 z, p, q]) w := by
  obtain ⟨a, n, c, rfl⟩ := hp
  obtain ⟨a', n', c', rfl⟩ := hq
  simp [go_sem, loadVar, h0, h1, h2, h3, h4]
section
variable {w : World}
set_option maxRecDepth 100000 in
set_option maxHeartbeats 32000000 in
theorem cSameP (a b : Scr.Act) (dv av cv dv' av' cv' : Value) (hA : ActV w a dv av cv) (hB : ActV w b dv' av' cv') (hl : a.args.length < 1000000) (hl2 : b.args.length < 1000000) :
    Calls Tryd.prog 26 #[.agg (actC a dv av cv), .agg (actC b dv' av' cv')] w fun e w' => e = .returned (.bool (decide (a = b))) ∧ Below w.heap.size w w' := by
  obtain ⟨hd1, ha1, hq1⟩ := hA
  obtain ⟨hd2, ha2, hq2⟩ := hB
  obtain ⟨da1, dc1, rfl⟩ := hd1.eq
  obtain ⟨da2, dc2, rfl⟩ := hd2.eq
  obtain ⟨aa1, ac1, rfl⟩ := ha1.eq
  obtain ⟨aa2, ac2, rfl⟩ := ha2.eq
  obtain ⟨qa1, qc1, rfl⟩ := hq1.eq
  obtain ⟨qa2, qc2, rfl⟩ := hq2.eq
  cases a with | mk k1 n1 m1 d1 s1 u1 v1 l1 q1 x1 y1 z1 =>
  cases b with | mk k2 n2 m2 d2 s2 u2 v2 l2 q2 x2 y2 z2 =>
  simp only at hd1 ha1 hq1 hd2 ha2 hq2 hl hl2
  obtain ⟨r, hr⟩ : ∃ r, r = decide ((⟨k1, n1, m1, d1, s1, u1, v1, l1, q1, x1, y1, z1⟩ : Scr.Act) = ⟨k2, n2, m2, d2, s2, u2, v2, l2, q2, x2, y2, z2⟩) := ⟨_, rfl⟩
  rw [← hr]
  have hr2 : r = true ↔ (k1 = k2 ∧ n1 = n2 ∧ m1 = m2 ∧ d1 = d2 ∧ s1 = s2 ∧ u1 = u2 ∧ v1 = v2 ∧ l1 = l2 ∧ q1 = q2 ∧ x1 = x2 ∧ y1 = y2 ∧ z1 = z2) := by rw [hr, decide_eq_true_eq, Scr.Act.mk.injEq]
  have hrg : r = decide (l1 = l2 ∧ s1 = s2 ∧ u1 = u2 ∧ v1 = v2 ∧ q1 = q2 ∧ k1 = k2 ∧ n1 = n2 ∧ m1 = m2 ∧ d1 = d2 ∧ x1 = x2 ∧ y1 = y2 ∧ z1 = z2) := by
    rw [Bool.eq_iff_iff, hr2]
    simp only [decide_eq_true_eq]
    constructor
    · rintro ⟨a1, a2, a3, a4, a5, a6, a7, a8, a9, a10, a11, a12⟩; exact ⟨a8, a5, a6, a7, a9, a1, a2, a3, a4, a10, a11, a12⟩
    · rintro ⟨a8, a5, a6, a7, a9, a1, a2, a3, a4, a10, a11, a12⟩; exact ⟨a1, a2, a3, a4, a5, a6, a7, a8, a9, a10, a11, a12⟩
  clear hr hr2
  simp only [actC]
  have HC1 := hid (fun y (hy : Below w.heap.size w y) => conv_bytes (hd1.below hy))
  have HC2 := hid (fun y (hy : Below w.heap.size w y) => conv_bytes (hd2.below hy))
  have HC3 := hid (fun y (hy : Below w.heap.size w y) => conv_bytes (hq1.below hy))
  have HC4 := hid (fun y (hy : Below w.heap.size w y) => conv_bytes (hq2.below hy))
  rw [intsV_len] at ha1 ha2
  have HA1 := hid ha1
  have HA2 := hid ha2
  obtain ⟨L1, hL1⟩ : ∃ L1, L1 = l1.length := ⟨_, rfl⟩
  obtain ⟨L2, hL2⟩ : ∃ L2, L2 = l2.length := ⟨_, rfl⟩
  rw [intsV_len, intsV_len]
  rw [← hL1] at HA1 hl ⊢
  rw [← hL2] at HA2 hl2 ⊢
  have HL1 := hid hL1
  have HL2 := hid hL2
  clear hd1 hd2 ha1 ha2 hq1 hq2 hL1 hL2
  generalize (u8v d1).length = D1 at *
  generalize (u8v d2).length = D2 at *
  generalize (u8v q1).length = Q1 at *
  generalize (u8v q2).length = Q2 at *
  have HS2 := hid (((Sts.nil w).alloc stab0 (.cells #[.int .i64 k1, .int .i64 n1, .string ⟨m1.toArray⟩, .slice da1 D1 dc1, .int .i64 s1, .int .i64 u1, .int .i64 v1, .slice aa1 L1 ac1, .slice qa1 Q1 qc1, .int .i64 x1, .int .i64 y1, .int .i64 z1] 29)).alloc (stab1 (blkP_stable _ _)) (.cells #[.int .i64 k2, .int .i64 n2, .string ⟨m2.toArray⟩, .slice da2 D2 dc2, .int .i64 s2, .int .i64 u2, .int .i64 v2, .slice aa2 L2 ac2, .slice qa2 Q2 qc2, .int .i64 x2, .int .i64 y2, .int .i64 z2] 29))
  rw [size_alloc] at HS2
  have HB := hid (show Below w.heap.size w ((w.alloc (.cells #[.int .i64 k1, .int .i64 n1, .string ⟨m1.toArray⟩, .slice da1 D1 dc1, .int .i64 s1, .int .i64 u1, .int .i64 v1, .slice aa1 L1 ac1, .slice qa1 Q1 qc1, .int .i64 x1, .int .i64 y1, .int .i64 z1] 29)).alloc (.cells #[.int .i64 k2, .int .i64 n2, .string ⟨m2.toArray⟩, .slice da2 D2 dc2, .int .i64 s2, .int .i64 u2, .int .i64 v2, .slice aa2 L2 ac2, .slice qa2 Q2 qc2, .int .i64 x2, .int .i64 y2, .int .i64 z2] 29)) from HS2.out.below)
  have HX1 := hid (show ∀ y, Up ((w.alloc (.cells #[.int .i64 k1, .int .i64 n1, .string ⟨m1.toArray⟩, .slice da1 D1 dc1, .int .i64 s1, .int .i64 u1, .int .i64 v1, .slice aa1 L1 ac1, .slice qa1 Q1 qc1, .int .i64 x1, .int .i64 y1, .int .i64 z1] 29)).alloc (.cells #[.int .i64 k2, .int .i64 n2, .string ⟨m2.toArray⟩, .slice da2 D2 dc2, .int .i64 s2, .int .i64 u2, .int .i64 v2, .slice aa2 L2 ac2, .slice qa2 Q2 qc2, .int .i64 x2, .int .i64 y2, .int .i64 z2] 29)) y → (y.cell? ⟨w.heap.size, 0, none⟩ = some (.int .i64 k1) ∧ y.cell? ⟨w.heap.size, 1, none⟩ = some (.int .i64 n1) ∧ y.cell? ⟨w.heap.size, 2, none⟩ = some (.string ⟨m1.toArray⟩) ∧ y.cell? ⟨w.heap.size, 3, none⟩ = some (.slice da1 D1 dc1)) ∧ (y.cell? ⟨w.heap.size, 9, none⟩ = some (.int .i64 x1) ∧ y.cell? ⟨w.heap.size, 10, none⟩ = some (.int .i64 y1) ∧ y.cell? ⟨w.heap.size, 11, none⟩ = some (.int .i64 z1)) ∧ (loadVar 25 ⟨w.heap.size, 4, none⟩).run Tryd.prog y = .ok (.agg #[.int .i64 s1, .int .i64 u1, .int .i64 v1, .slice aa1 L1 ac1, .slice qa1 Q1 qc1]) y from fun y hy => ⟨⟨(cell_below hy (Sts.boxCell HS2.out.swap 0 _ rfl).1), (cell_below hy (Sts.boxCell HS2.out.swap 1 _ rfl).1), (cell_below hy (Sts.boxCell HS2.out.swap 2 _ rfl).1), (cell_below hy (Sts.boxCell HS2.out.swap 3 _ rfl).1)⟩, ⟨(cell_below hy (Sts.boxCell HS2.out.swap 9 _ rfl).1), (cell_below hy (Sts.boxCell HS2.out.swap 10 _ rfl).1), (cell_below hy (Sts.boxCell HS2.out.swap 11 _ rfl).1)⟩, ld_cmd4 ⟨_, _, _, rfl⟩ ⟨_, _, _, rfl⟩ (cell_below hy (Sts.boxCell HS2.out.swap 4 _ rfl).1) (cell_below hy (Sts.boxCell HS2.out.swap 5 _ rfl).1) (cell_below hy (Sts.boxCell HS2.out.swap 6 _ rfl).1) (cell_below hy (Sts.boxCell HS2.out.swap 7 _ rfl).1) (cell_below hy (Sts.boxCell HS2.out.swap 8 _ rfl).1)⟩)
  have HX2 := hid (show ∀ y, Up ((w.alloc (.cells #[.int .i64 k1, .int .i64 n1, .string ⟨m1.toArray⟩, .slice da1 D1 dc1, .int .i64 s1, .int .i64 u1, .int .i64 v1, .slice aa1 L1 ac1, .slice qa1 Q1 qc1, .int .i64 x1, .int .i64 y1, .int .i64 z1] 29)).alloc (.cells #[.int .i64 k2, .int .i64 n2, .string ⟨m2.toArray⟩, .slice da2 D2 dc2, .int .i64 s2, .int .i64 u2, .int .i64 v2, .slice aa2 L2 ac2, .slice qa2 Q2 qc2, .int .i64 x2, .int .i64 y2, .int .i64 z2] 29)) y → (y.cell? ⟨w.heap.size + 1, 0, none⟩ = some (.int .i64 k2) ∧ y.cell? ⟨w.heap.size + 1, 1, none⟩ = some (.int .i64 n2) ∧ y.cell? ⟨w.heap.size + 1, 2, none⟩ = some (.string ⟨m2.toArray⟩) ∧ y.cell? ⟨w.heap.size + 1, 3, none⟩ = some (.slice da2 D2 dc2)) ∧ (y.cell? ⟨w.heap.size + 1, 9, none⟩ = some (.int .i64 x2) ∧ y.cell? ⟨w.heap.size + 1, 10, none⟩ = some (.int .i64 y2) ∧ y.cell? ⟨w.heap.size + 1, 11, none⟩ = some (.int .i64 z2)) ∧ (loadVar 25 ⟨w.heap.size + 1, 4, none⟩).run Tryd.prog y = .ok (.agg #[.int .i64 s2, .int .i64 u2, .int .i64 v2, .slice aa2 L2 ac2, .slice qa2 Q2 qc2]) y from fun y hy => ⟨⟨(cell_below hy (Sts.boxCell HS2.out 0 _ rfl).1), (cell_below hy (Sts.boxCell HS2.out 1 _ rfl).1), (cell_below hy (Sts.boxCell HS2.out 2 _ rfl).1), (cell_below hy (Sts.boxCell HS2.out 3 _ rfl).1)⟩, ⟨(cell_below hy (Sts.boxCell HS2.out 9 _ rfl).1), (cell_below hy (Sts.boxCell HS2.out 10 _ rfl).1), (cell_below hy (Sts.boxCell HS2.out 11 _ rfl).1)⟩, ld_cmd4 ⟨_, _, _, rfl⟩ ⟨_, _, _, rfl⟩ (cell_below hy (Sts.boxCell HS2.out 4 _ rfl).1) (cell_below hy (Sts.boxCell HS2.out 5 _ rfl).1) (cell_below hy (Sts.boxCell HS2.out 6 _ rfl).1) (cell_below hy (Sts.boxCell HS2.out 7 _ rfl).1) (cell_below hy (Sts.boxCell HS2.out 8 _ rfl).1)⟩)
  have HD0 := hid ((Below.refl ((w.alloc (.cells #[.int .i64 k1, .int .i64 n1, .string ⟨m1.toArray⟩, .slice da1 D1 dc1, .int .i64 s1, .int .i64 u1, .int .i64 v1, .slice aa1 L1 ac1, .slice qa1 Q1 qc1, .int .i64 x1, .int .i64 y1, .int .i64 z1] 29)).alloc (.cells #[.int .i64 k2, .int .i64 n2, .string ⟨m2.toArray⟩, .slice da2 D2 dc2, .int .i64 s2, .int .i64 u2, .int .i64 v2, .slice aa2 L2 ac2, .slice qa2 Q2 qc2, .int .i64 x2, .int .i64 y2, .int .i64 z2] 29)).heap.size ((w.alloc (.cells #[.int .i64 k1, .int .i64 n1, .string ⟨m1.toArray⟩, .slice da1 D1 dc1, .int .i64 s1, .int .i64 u1, .int .i64 v1, .slice aa1 L1 ac1, .slice qa1 Q1 qc1, .int .i64 x1, .int .i64 y1, .int .i64 z1] 29)).alloc (.cells #[.int .i64 k2, .int .i64 n2, .string ⟨m2.toArray⟩, .slice da2 D2 dc2, .int .i64 s2, .int .i64 u2, .int .i64 v2, .slice aa2 L2 ac2, .slice qa2 Q2 qc2, .int .i64 x2, .int .i64 y2, .int .i64 z2] 29))).drew)
  obtain ⟨V, hV⟩ : ∃ V, V = ((w.alloc (.cells #[.int .i64 k1, .int .i64 n1, .string ⟨m1.toArray⟩, .slice da1 D1 dc1, .int .i64 s1, .int .i64 u1, .int .i64 v1, .slice aa1 L1 ac1, .slice qa1 Q1 qc1, .int .i64 x1, .int .i64 y1, .int .i64 z1] 29)).alloc (.cells #[.int .i64 k2, .int .i64 n2, .string ⟨m2.toArray⟩, .slice da2 D2 dc2, .int .i64 s2, .int .i64 u2, .int .i64 v2, .slice aa2 L2 ac2, .slice qa2 Q2 qc2, .int .i64 x2, .int .i64 y2, .int .i64 z2] 29)) := ⟨_, rfl⟩
  have HVE := hid hV
  rw [← hV] at HB HX1 HX2 HD0
  clear HS2 hV
  obtain ⟨cA, hcA⟩ : ∃ cA : Array Value, cA = #[.int .i64 s1, .int .i64 u1, .int .i64 v1, .slice aa1 L1 ac1, .slice qa1 Q1 qc1] := ⟨_, rfl⟩
  obtain ⟨cB, hcB⟩ : ∃ cB : Array Value, cB = #[.int .i64 s2, .int .i64 u2, .int .i64 v2, .slice aa2 L2 ac2, .slice qa2 Q2 qc2] := ⟨_, rfl⟩
  have HZA := hid (show cA.size = 5 ∧ cA.toList.all (fun v => v.oneCell') = true from by rw [hcA]; exact ⟨rfl, rfl⟩)
  have HZB := hid (show cB.size = 5 ∧ cB.toList.all (fun v => v.oneCell') = true from by rw [hcB]; exact ⟨rfl, rfl⟩)
  have HCA := hid (show ∀ (W y : World) (p : Nat) (l : List HProp), Sts W (blkP p (.cells cA 25 (0, 0)) :: l) y → y.cell? ⟨p, 0, none⟩ = some (.int .i64 s1) ∧ y.cell? ⟨p, 1, none⟩ = some (.int .i64 u1) ∧ y.cell? ⟨p, 2, none⟩ = some (.int .i64 v1) ∧ y.cell? ⟨p, 3, none⟩ = some (.slice aa1 L1 ac1) ∧ y.cell? ⟨p, 4, none⟩ = some (.slice qa1 Q1 qc1) from fun W y p l h => by rw [hcA] at h; exact ⟨(Sts.boxCell h 0 _ rfl).1, (Sts.boxCell h 1 _ rfl).1, (Sts.boxCell h 2 _ rfl).1, (Sts.boxCell h 3 _ rfl).1, (Sts.boxCell h 4 _ rfl).1⟩)
  have HCB := hid (show ∀ (W y : World) (p : Nat) (l : List HProp), Sts W (blkP p (.cells cB 25 (0, 0)) :: l) y → y.cell? ⟨p, 0, none⟩ = some (.int .i64 s2) ∧ y.cell? ⟨p, 1, none⟩ = some (.int .i64 u2) ∧ y.cell? ⟨p, 2, none⟩ = some (.int .i64 v2) ∧ y.cell? ⟨p, 3, none⟩ = some (.slice aa2 L2 ac2) ∧ y.cell? ⟨p, 4, none⟩ = some (.slice qa2 Q2 qc2) from fun W y p l h => by rw [hcB] at h; exact ⟨(Sts.boxCell h 0 _ rfl).1, (Sts.boxCell h 1 _ rfl).1, (Sts.boxCell h 2 _ rfl).1, (Sts.boxCell h 3 _ rfl).1, (Sts.boxCell h 4 _ rfl).1⟩)
  rw [← hcA] at HX1
  rw [← hcB] at HX2
  clear hcA hcB
  by_cases h4 : L1 = L2
  case neg =>
    have hr0 : r = false := by
      rw [hrg]
      have : ¬ l1 = l2 := fun e => h4 (by rw [HL1.out, HL2.out, e])
      simp [this]
    have f1 : ((L1 : Int) == (L2 : Int)) = false := by simp; omega
    have f2 : ¬ ((L1 : Int) = (L2 : Int)) := by omega
    subst hr0
    clear hrg
    go_enter Tryd.func26, Tryd.ntmps26
    go_wp2_with fail
    refine wp_region_ord (.pure 0 (.pure 1 (.pure 2 (.pure 3 (.eff2 4 5 (.eff 5 (.eff 6 (.eff 7 .nil))) (.eff 4 (.eff 6 (.eff 7 .nil)))))))) (Up V) (fun y => Sts V [] y) (by kernel_rfl) (by kernel_rfl) (by rw [← HVE.out]; exact Sts.nil_below HD0.out) (fun y hy => hy.below) ?_
    apply ord_pure (ho := rfl)
    · go_simp
    · intro x hx; go_simp; rfl
    apply ord_norm
    · go_simp; rfl
    apply ord_pure (v := .agg cA) (ho := rfl)
    · go_simp
    · exact fun x hx => exec_ld (.tmp 9) 25 rfl rfl (HX1.out x hx).2.2
    apply ord_norm
    · go_simp; rfl
    apply ord_pure (ho := rfl)
    · go_simp
    · intro x hx; go_simp; rfl
    apply ord_norm
    · go_simp; rfl
    apply ord_pure (v := .agg cB) (ho := rfl)
    · go_simp
    · exact fun x hx => exec_ld (.tmp 11) 25 rfl rfl (HX2.out x hx).2.2
    apply ord_norm
    · go_simp; rfl
    refine ord_eff2 ?_ ?_
    · apply ord_eff (ho := rfl)
      · go_simp
      intro g5 hx
      refine eff_value (v := .pointer (some ⟨g5.heap.size, 0, none⟩)) (w := g5.alloc (.cells #[.int .i64 0, .int .i64 0, .int .i64 0, .slice none 0 0, .slice none 0 0] 25)) (Up V) (fun y => Sts V (blkP g5.heap.size (.cells #[.int .i64 0, .int .i64 0, .int .i64 0, .slice none 0 0, .slice none 0 0] 25 (0, 0)) :: []) y) (by go_simp) (Sts.alloc stab0 hx _) (fun y hy => hy.below) (fun _ h => h) ?_
      apply ord_norm
      · go_simp; rfl
      clear hx
      apply ord_eff (ho := rfl)
      · go_simp
      intro g6 hx
      refine eff_value (v := .pointer (some ⟨g6.heap.size, 0, none⟩)) (w := g6.alloc (.cells #[.int .i64 0, .int .i64 0, .int .i64 0, .slice none 0 0, .slice none 0 0] 25)) (Up V) (fun y => Sts V (blkP g6.heap.size (.cells #[.int .i64 0, .int .i64 0, .int .i64 0, .slice none 0 0, .slice none 0 0] 25 (0, 0)) :: [blkP g5.heap.size (.cells #[.int .i64 0, .int .i64 0, .int .i64 0, .slice none 0 0, .slice none 0 0] 25 (0, 0))]) y) (by go_simp) (Sts.alloc (stab1 (blkP_stable _ _)) hx _) (fun y hy => hy.below) (fun _ h => h) ?_
      apply ord_norm
      · go_simp; rfl
      clear hx
      apply ord_eff (ho := rfl)
      · go_simp
      intro t ht
      refine eff_agg (ht.swap) (stab1 (blkP_stable _ _)) (.tmp 5) (.tmp 10) 25 rfl cA rfl rfl (by rw [HZA.out.1]; exact sizeCmd) (by rw [HZA.out.1]; rfl) HZA.out.2 (Up V) (fun z hz => hz.below) ?_
      apply ord_norm
      · go_simp; rfl
      clear ht
      apply ord_eff (ho := rfl)
      · go_simp
      intro t ht
      refine eff_agg (ht.swap) (stab1 (blkP_stable _ _)) (.tmp 6) (.tmp 12) 25 rfl cB rfl rfl (by rw [HZB.out.1]; exact sizeCmd) (by rw [HZB.out.1]; rfl) HZB.out.2 (Up V) (fun z hz => hz.below) ?_
      apply ord_norm
      · go_simp; rfl
      clear ht
      apply ord_nil
      intro y hy
      have HY := hid hy
      clear hy
      have HUP := hid HY.out.below
      obtain ⟨⟨c0, c1, c2, c3⟩, ⟨c9, c10, c11⟩, -⟩ := HX1.out y HUP.out
      obtain ⟨⟨e0, e1, e2, e3⟩, ⟨e9, e10, e11⟩, -⟩ := HX2.out y HUP.out
      obtain ⟨j0, j1, j2, j3, j4⟩ := HCA.out _ _ _ _ HY.out.swap
      obtain ⟨i0, i1, i2, i3, i4⟩ := HCB.out _ _ _ _ HY.out
      have HBY := hid (below_step HB.out HUP.out)
      have g3 := HC3.out y HBY.out
      have g4 := HC4.out y HBY.out
      go_wp2_with fail
      all_goals (go_ret; exact ⟨rfl, HBY.out⟩)
    · apply ord_eff (ho := rfl)
      · go_simp
      intro g6 hx
      refine eff_value (v := .pointer (some ⟨g6.heap.size, 0, none⟩)) (w := g6.alloc (.cells #[.int .i64 0, .int .i64 0, .int .i64 0, .slice none 0 0, .slice none 0 0] 25)) (Up V) (fun y => Sts V (blkP g6.heap.size (.cells #[.int .i64 0, .int .i64 0, .int .i64 0, .slice none 0 0, .slice none 0 0] 25 (0, 0)) :: []) y) (by go_simp) (Sts.alloc stab0 hx _) (fun y hy => hy.below) (fun _ h => h) ?_
      apply ord_norm
      · go_simp; rfl
      clear hx
      apply ord_eff (ho := rfl)
      · go_simp
      intro g5 hx
      refine eff_value (v := .pointer (some ⟨g5.heap.size, 0, none⟩)) (w := g5.alloc (.cells #[.int .i64 0, .int .i64 0, .int .i64 0, .slice none 0 0, .slice none 0 0] 25)) (Up V) (fun y => Sts V (blkP g5.heap.size (.cells #[.int .i64 0, .int .i64 0, .int .i64 0, .slice none 0 0, .slice none 0 0] 25 (0, 0)) :: [blkP g6.heap.size (.cells #[.int .i64 0, .int .i64 0, .int .i64 0, .slice none 0 0, .slice none 0 0] 25 (0, 0))]) y) (by go_simp) (Sts.alloc (stab1 (blkP_stable _ _)) hx _) (fun y hy => hy.below) (fun _ h => h) ?_
      apply ord_norm
      · go_simp; rfl
      clear hx
      apply ord_eff (ho := rfl)
      · go_simp
      intro t ht
      refine eff_agg (ht) (stab1 (blkP_stable _ _)) (.tmp 5) (.tmp 10) 25 rfl cA rfl rfl (by rw [HZA.out.1]; exact sizeCmd) (by rw [HZA.out.1]; rfl) HZA.out.2 (Up V) (fun z hz => hz.below) ?_
      apply ord_norm
      · go_simp; rfl
      clear ht
      apply ord_eff (ho := rfl)
      · go_simp
      intro t ht
      refine eff_agg (ht.swap) (stab1 (blkP_stable _ _)) (.tmp 6) (.tmp 12) 25 rfl cB rfl rfl (by rw [HZB.out.1]; exact sizeCmd) (by rw [HZB.out.1]; rfl) HZB.out.2 (Up V) (fun z hz => hz.below) ?_
      apply ord_norm
      · go_simp; rfl
      clear ht
      apply ord_nil
      intro y hy
      have HY := hid hy
      clear hy
      have HUP := hid HY.out.below
      obtain ⟨⟨c0, c1, c2, c3⟩, ⟨c9, c10, c11⟩, -⟩ := HX1.out y HUP.out
      obtain ⟨⟨e0, e1, e2, e3⟩, ⟨e9, e10, e11⟩, -⟩ := HX2.out y HUP.out
      obtain ⟨j0, j1, j2, j3, j4⟩ := HCA.out _ _ _ _ HY.out.swap
      obtain ⟨i0, i1, i2, i3, i4⟩ := HCB.out _ _ _ _ HY.out
      have HBY := hid (below_step HB.out HUP.out)
      have g3 := HC3.out y HBY.out
      have g4 := HC4.out y HBY.out
      go_wp2_with fail
      all_goals (go_ret; exact ⟨rfl, HBY.out⟩)
  subst h4
  by_cases h1 : s1 = s2
  case neg =>
    have hr0 : r = false := by rw [hrg]; simp [h1]
    have f1 : (s1 == s2) = false := by simp [h1]
    subst hr0
    clear hrg
    go_enter Tryd.func26, Tryd.ntmps26
    go_wp2_with fail
    refine wp_region_ord (.pure 0 (.pure 1 (.pure 2 (.pure 3 (.eff2 4 5 (.eff 5 (.eff 6 (.eff 7 .nil))) (.eff 4 (.eff 6 (.eff 7 .nil)))))))) (Up V) (fun y => Sts V [] y) (by kernel_rfl) (by kernel_rfl) (by rw [← HVE.out]; exact Sts.nil_below HD0.out) (fun y hy => hy.below) ?_
    apply ord_pure (ho := rfl)
    · go_simp
    · intro x hx; go_simp; rfl
    apply ord_norm
    · go_simp; rfl
    apply ord_pure (v := .agg cA) (ho := rfl)
    · go_simp
    · exact fun x hx => exec_ld (.tmp 9) 25 rfl rfl (HX1.out x hx).2.2
    apply ord_norm
    · go_simp; rfl
    apply ord_pure (ho := rfl)
    · go_simp
    · intro x hx; go_simp; rfl
    apply ord_norm
    · go_simp; rfl
    apply ord_pure (v := .agg cB) (ho := rfl)
    · go_simp
    · exact fun x hx => exec_ld (.tmp 11) 25 rfl rfl (HX2.out x hx).2.2
    apply ord_norm
    · go_simp; rfl
    refine ord_eff2 ?_ ?_
    · apply ord_eff (ho := rfl)
      · go_simp
      intro g5 hx
      refine eff_value (v := .pointer (some ⟨g5.heap.size, 0, none⟩)) (w := g5.alloc (.cells #[.int .i64 0, .int .i64 0, .int .i64 0, .slice none 0 0, .slice none 0 0] 25)) (Up V) (fun y => Sts V (blkP g5.heap.size (.cells #[.int .i64 0, .int .i64 0, .int .i64 0, .slice none 0 0, .slice none 0 0] 25 (0, 0)) :: []) y) (by go_simp) (Sts.alloc stab0 hx _) (fun y hy => hy.below) (fun _ h => h) ?_
      apply ord_norm
      · go_simp; rfl
      clear hx
      apply ord_eff (ho := rfl)
      · go_simp
      intro g6 hx
      refine eff_value (v := .pointer (some ⟨g6.heap.size, 0, none⟩)) (w := g6.alloc (.cells #[.int .i64 0, .int .i64 0, .int .i64 0, .slice none 0 0, .slice none 0 0] 25)) (Up V) (fun y => Sts V (blkP g6.heap.size (.cells #[.int .i64 0, .int .i64 0, .int .i64 0, .slice none 0 0, .slice none 0 0] 25 (0, 0)) :: [blkP g5.heap.size (.cells #[.int .i64 0, .int .i64 0, .int .i64 0, .slice none 0 0, .slice none 0 0] 25 (0, 0))]) y) (by go_simp) (Sts.alloc (stab1 (blkP_stable _ _)) hx _) (fun y hy => hy.below) (fun _ h => h) ?_
      apply ord_norm
      · go_simp; rfl
      clear hx
      apply ord_eff (ho := rfl)
      · go_simp
      intro t ht
      refine eff_agg (ht.swap) (stab1 (blkP_stable _ _)) (.tmp 5) (.tmp 10) 25 rfl cA rfl rfl (by rw [HZA.out.1]; exact sizeCmd) (by rw [HZA.out.1]; rfl) HZA.out.2 (Up V) (fun z hz => hz.below) ?_
      apply ord_norm
      · go_simp; rfl
      clear ht
      apply ord_eff (ho := rfl)
      · go_simp
      intro t ht
      refine eff_agg (ht.swap) (stab1 (blkP_stable _ _)) (.tmp 6) (.tmp 12) 25 rfl cB rfl rfl (by rw [HZB.out.1]; exact sizeCmd) (by rw [HZB.out.1]; rfl) HZB.out.2 (Up V) (fun z hz => hz.below) ?_
      apply ord_norm
      · go_simp; rfl
      clear ht
      apply ord_nil
      intro y hy
      have HY := hid hy
      clear hy
      have HUP := hid HY.out.below
      obtain ⟨⟨c0, c1, c2, c3⟩, ⟨c9, c10, c11⟩, -⟩ := HX1.out y HUP.out
      obtain ⟨⟨e0, e1, e2, e3⟩, ⟨e9, e10, e11⟩, -⟩ := HX2.out y HUP.out
      obtain ⟨j0, j1, j2, j3, j4⟩ := HCA.out _ _ _ _ HY.out.swap
      obtain ⟨i0, i1, i2, i3, i4⟩ := HCB.out _ _ _ _ HY.out
      have HBY := hid (below_step HB.out HUP.out)
      have g3 := HC3.out y HBY.out
      have g4 := HC4.out y HBY.out
      go_wp2_with fail
      all_goals (go_ret; exact ⟨rfl, HBY.out⟩)
    · apply ord_eff (ho := rfl)
      · go_simp
      intro g6 hx
      refine eff_value (v := .pointer (some ⟨g6.heap.size, 0, none⟩)) (w := g6.alloc (.cells #[.int .i64 0, .int .i64 0, .int .i64 0, .slice none 0 0, .slice none 0 0] 25)) (Up V) (fun y => Sts V (blkP g6.heap.size (.cells #[.int .i64 0, .int .i64 0, .int .i64 0, .slice none 0 0, .slice none 0 0] 25 (0, 0)) :: []) y) (by go_simp) (Sts.alloc stab0 hx _) (fun y hy => hy.below) (fun _ h => h) ?_
      apply ord_norm
      · go_simp; rfl
      clear hx
      apply ord_eff (ho := rfl)
      · go_simp
      intro g5 hx
      refine eff_value (v := .pointer (some ⟨g5.heap.size, 0, none⟩)) (w := g5.alloc (.cells #[.int .i64 0, .int .i64 0, .int .i64 0, .slice none 0 0, .slice none 0 0] 25)) (Up V) (fun y => Sts V (blkP g5.heap.size (.cells #[.int .i64 0, .int .i64 0, .int .i64 0, .slice none 0 0, .slice none 0 0] 25 (0, 0)) :: [blkP g6.heap.size (.cells #[.int .i64 0, .int .i64 0, .int .i64 0, .slice none 0 0, .slice none 0 0] 25 (0, 0))]) y) (by go_simp) (Sts.alloc (stab1 (blkP_stable _ _)) hx _) (fun y hy => hy.below) (fun _ h => h) ?_
      apply ord_norm
      · go_simp; rfl
      clear hx
      apply ord_eff (ho := rfl)
      · go_simp
      intro t ht
      refine eff_agg (ht) (stab1 (blkP_stable _ _)) (.tmp 5) (.tmp 10) 25 rfl cA rfl rfl (by rw [HZA.out.1]; exact sizeCmd) (by rw [HZA.out.1]; rfl) HZA.out.2 (Up V) (fun z hz => hz.below) ?_
      apply ord_norm
      · go_simp; rfl
      clear ht
      apply ord_eff (ho := rfl)
      · go_simp
      intro t ht
      refine eff_agg (ht.swap) (stab1 (blkP_stable _ _)) (.tmp 6) (.tmp 12) 25 rfl cB rfl rfl (by rw [HZB.out.1]; exact sizeCmd) (by rw [HZB.out.1]; rfl) HZB.out.2 (Up V) (fun z hz => hz.below) ?_
      apply ord_norm
      · go_simp; rfl
      clear ht
      apply ord_nil
      intro y hy
      have HY := hid hy
      clear hy
      have HUP := hid HY.out.below
      obtain ⟨⟨c0, c1, c2, c3⟩, ⟨c9, c10, c11⟩, -⟩ := HX1.out y HUP.out
      obtain ⟨⟨e0, e1, e2, e3⟩, ⟨e9, e10, e11⟩, -⟩ := HX2.out y HUP.out
      obtain ⟨j0, j1, j2, j3, j4⟩ := HCA.out _ _ _ _ HY.out.swap
      obtain ⟨i0, i1, i2, i3, i4⟩ := HCB.out _ _ _ _ HY.out
      have HBY := hid (below_step HB.out HUP.out)
      have g3 := HC3.out y HBY.out
      have g4 := HC4.out y HBY.out
      go_wp2_with fail
      all_goals (go_ret; exact ⟨rfl, HBY.out⟩)
  subst h1
  by_cases h2 : u1 = u2
  case neg =>
    have hr0 : r = false := by rw [hrg]; simp [h2]
    have f1 : (u1 == u2) = false := by simp [h2]
    subst hr0
    clear hrg
    go_enter Tryd.func26, Tryd.ntmps26
    go_wp2_with fail
    refine wp_region_ord (.pure 0 (.pure 1 (.pure 2 (.pure 3 (.eff2 4 5 (.eff 5 (.eff 6 (.eff 7 .nil))) (.eff 4 (.eff 6 (.eff 7 .nil)))))))) (Up V) (fun y => Sts V [] y) (by kernel_rfl) (by kernel_rfl) (by rw [← HVE.out]; exact Sts.nil_below HD0.out) (fun y hy => hy.below) ?_
    apply ord_pure (ho := rfl)
    · go_simp
    · intro x hx; go_simp; rfl
    apply ord_norm
    · go_simp; rfl
    apply ord_pure (v := .agg cA) (ho := rfl)
    · go_simp
    · exact fun x hx => exec_ld (.tmp 9) 25 rfl rfl (HX1.out x hx).2.2
    apply ord_norm
    · go_simp; rfl
    apply ord_pure (ho := rfl)
    · go_simp
    · intro x hx; go_simp; rfl
    apply ord_norm
    · go_simp; rfl
    apply ord_pure (v := .agg cB) (ho := rfl)
    · go_simp
    · exact fun x hx => exec_ld (.tmp 11) 25 rfl rfl (HX2.out x hx).2.2
    apply ord_norm
    · go_simp; rfl
    refine ord_eff2 ?_ ?_
    · apply ord_eff (ho := rfl)
      · go_simp
      intro g5 hx
      refine eff_value (v := .pointer (some ⟨g5.heap.size, 0, none⟩)) (w := g5.alloc (.cells #[.int .i64 0, .int .i64 0, .int .i64 0, .slice none 0 0, .slice none 0 0] 25)) (Up V) (fun y => Sts V (blkP g5.heap.size (.cells #[.int .i64 0, .int .i64 0, .int .i64 0, .slice none 0 0, .slice none 0 0] 25 (0, 0)) :: []) y) (by go_simp) (Sts.alloc stab0 hx _) (fun y hy => hy.below) (fun _ h => h) ?_
      apply ord_norm
      · go_simp; rfl
      clear hx
      apply ord_eff (ho := rfl)
      · go_simp
      intro g6 hx
      refine eff_value (v := .pointer (some ⟨g6.heap.size, 0, none⟩)) (w := g6.alloc (.cells #[.int .i64 0, .int .i64 0, .int .i64 0, .slice none 0 0, .slice none 0 0] 25)) (Up V) (fun y => Sts V (blkP g6.heap.size (.cells #[.int .i64 0, .int .i64 0, .int .i64 0, .slice none 0 0, .slice none 0 0] 25 (0, 0)) :: [blkP g5.heap.size (.cells #[.int .i64 0, .int .i64 0, .int .i64 0, .slice none 0 0, .slice none 0 0] 25 (0, 0))]) y) (by go_simp) (Sts.alloc (stab1 (blkP_stable _ _)) hx _) (fun y hy => hy.below) (fun _ h => h) ?_
      apply ord_norm
      · go_simp; rfl
      clear hx
      apply ord_eff (ho := rfl)
      · go_simp
      intro t ht
      refine eff_agg (ht.swap) (stab1 (blkP_stable _ _)) (.tmp 5) (.tmp 10) 25 rfl cA rfl rfl (by rw [HZA.out.1]; exact sizeCmd) (by rw [HZA.out.1]; rfl) HZA.out.2 (Up V) (fun z hz => hz.below) ?_
      apply ord_norm
      · go_simp; rfl
      clear ht
      apply ord_eff (ho := rfl)
      · go_simp
      intro t ht
      refine eff_agg (ht.swap) (stab1 (blkP_stable _ _)) (.tmp 6) (.tmp 12) 25 rfl cB rfl rfl (by rw [HZB.out.1]; exact sizeCmd) (by rw [HZB.out.1]; rfl) HZB.out.2 (Up V) (fun z hz => hz.below) ?_
      apply ord_norm
      · go_simp; rfl
      clear ht
      apply ord_nil
      intro y hy
      have HY := hid hy
      clear hy
      have HUP := hid HY.out.below
      obtain ⟨⟨c0, c1, c2, c3⟩, ⟨c9, c10, c11⟩, -⟩ := HX1.out y HUP.out
      obtain ⟨⟨e0, e1, e2, e3⟩, ⟨e9, e10, e11⟩, -⟩ := HX2.out y HUP.out
      obtain ⟨j0, j1, j2, j3, j4⟩ := HCA.out _ _ _ _ HY.out.swap
      obtain ⟨i0, i1, i2, i3, i4⟩ := HCB.out _ _ _ _ HY.out
      have HBY := hid (below_step HB.out HUP.out)
      have g3 := HC3.out y HBY.out
      have g4 := HC4.out y HBY.out
      go_wp2_with fail
      all_goals (go_ret; exact ⟨rfl, HBY.out⟩)
    · apply ord_eff (ho := rfl)
      · go_simp
      intro g6 hx
      refine eff_value (v := .pointer (some ⟨g6.heap.size, 0, none⟩)) (w := g6.alloc (.cells #[.int .i64 0, .int .i64 0, .int .i64 0, .slice none 0 0, .slice none 0 0] 25)) (Up V) (fun y => Sts V (blkP g6.heap.size (.cells #[.int .i64 0, .int .i64 0, .int .i64 0, .slice none 0 0, .slice none 0 0] 25 (0, 0)) :: []) y) (by go_simp) (Sts.alloc stab0 hx _) (fun y hy => hy.below) (fun _ h => h) ?_
      apply ord_norm
      · go_simp; rfl
      clear hx
      apply ord_eff (ho := rfl)
      · go_simp
      intro g5 hx
      refine eff_value (v := .pointer (some ⟨g5.heap.size, 0, none⟩)) (w := g5.alloc (.cells #[.int .i64 0, .int .i64 0, .int .i64 0, .slice none 0 0, .slice none 0 0] 25)) (Up V) (fun y => Sts V (blkP g5.heap.size (.cells #[.int .i64 0, .int .i64 0, .int .i64 0, .slice none 0 0, .slice none 0 0] 25 (0, 0)) :: [blkP g6.heap.size (.cells #[.int .i64 0, .int .i64 0, .int .i64 0, .slice none 0 0, .slice none 0 0] 25 (0, 0))]) y) (by go_simp) (Sts.alloc (stab1 (blkP_stable _ _)) hx _) (fun y hy => hy.below) (fun _ h => h) ?_
      apply ord_norm
      · go_simp; rfl
      clear hx
      apply ord_eff (ho := rfl)
      · go_simp
      intro t ht
      refine eff_agg (ht) (stab1 (blkP_stable _ _)) (.tmp 5) (.tmp 10) 25 rfl cA rfl rfl (by rw [HZA.out.1]; exact sizeCmd) (by rw [HZA.out.1]; rfl) HZA.out.2 (Up V) (fun z hz => hz.below) ?_
      apply ord_norm
      · go_simp; rfl
      clear ht
      apply ord_eff (ho := rfl)
      · go_simp
      intro t ht
      refine eff_agg (ht.swap) (stab1 (blkP_stable _ _)) (.tmp 6) (.tmp 12) 25 rfl cB rfl rfl (by rw [HZB.out.1]; exact sizeCmd) (by rw [HZB.out.1]; rfl) HZB.out.2 (Up V) (fun z hz => hz.below) ?_
      apply ord_norm
      · go_simp; rfl
      clear ht
      apply ord_nil
      intro y hy
      have HY := hid hy
      clear hy
      have HUP := hid HY.out.below
      obtain ⟨⟨c0, c1, c2, c3⟩, ⟨c9, c10, c11⟩, -⟩ := HX1.out y HUP.out
      obtain ⟨⟨e0, e1, e2, e3⟩, ⟨e9, e10, e11⟩, -⟩ := HX2.out y HUP.out
      obtain ⟨j0, j1, j2, j3, j4⟩ := HCA.out _ _ _ _ HY.out.swap
      obtain ⟨i0, i1, i2, i3, i4⟩ := HCB.out _ _ _ _ HY.out
      have HBY := hid (below_step HB.out HUP.out)
      have g3 := HC3.out y HBY.out
      have g4 := HC4.out y HBY.out
      go_wp2_with fail
      all_goals (go_ret; exact ⟨rfl, HBY.out⟩)
  subst h2
  by_cases h3 : v1 = v2
  case neg =>
    have hr0 : r = false := by rw [hrg]; simp [h3]
    have f1 : (v1 == v2) = false := by simp [h3]
    subst hr0
    clear hrg
    go_enter Tryd.func26, Tryd.ntmps26
    go_wp2_with fail
    refine wp_region_ord (.pure 0 (.pure 1 (.pure 2 (.pure 3 (.eff2 4 5 (.eff 5 (.eff 6 (.eff 7 .nil))) (.eff 4 (.eff 6 (.eff 7 .nil)))))))) (Up V) (fun y => Sts V [] y) (by kernel_rfl) (by kernel_rfl) (by rw [← HVE.out]; exact Sts.nil_below HD0.out) (fun y hy => hy.below) ?_
    apply ord_pure (ho := rfl)
    · go_simp
    · intro x hx; go_simp; rfl
    apply ord_norm
    · go_simp; rfl
    apply ord_pure (v := .agg cA) (ho := rfl)
    · go_simp
    · exact fun x hx => exec_ld (.tmp 9) 25 rfl rfl (HX1.out x hx).2.2
    apply ord_norm
    · go_simp; rfl
    apply ord_pure (ho := rfl)
    · go_simp
    · intro x hx; go_simp; rfl
    apply ord_norm
    · go_simp; rfl
    apply ord_pure (v := .agg cB) (ho := rfl)
    · go_simp
    · exact fun x hx => exec_ld (.tmp 11) 25 rfl rfl (HX2.out x hx).2.2
    apply ord_norm
    · go_simp; rfl
    refine ord_eff2 ?_ ?_
    · apply ord_eff (ho := rfl)
      · go_simp
      intro g5 hx
      refine eff_value (v := .pointer (some ⟨g5.heap.size, 0, none⟩)) (w := g5.alloc (.cells #[.int .i64 0, .int .i64 0, .int .i64 0, .slice none 0 0, .slice none 0 0] 25)) (Up V) (fun y => Sts V (blkP g5.heap.size (.cells #[.int .i64 0, .int .i64 0, .int .i64 0, .slice none 0 0, .slice none 0 0] 25 (0, 0)) :: []) y) (by go_simp) (Sts.alloc stab0 hx _) (fun y hy => hy.below) (fun _ h => h) ?_
      apply ord_norm
      · go_simp; rfl
      clear hx
      apply ord_eff (ho := rfl)
      · go_simp
      intro g6 hx
      refine eff_value (v := .pointer (some ⟨g6.heap.size, 0, none⟩)) (w := g6.alloc (.cells #[.int .i64 0, .int .i64 0, .int .i64 0, .slice none 0 0, .slice none 0 0] 25)) (Up V) (fun y => Sts V (blkP g6.heap.size (.cells #[.int .i64 0, .int .i64 0, .int .i64 0, .slice none 0 0, .slice none 0 0] 25 (0, 0)) :: [blkP g5.heap.size (.cells #[.int .i64 0, .int .i64 0, .int .i64 0, .slice none 0 0, .slice none 0 0] 25 (0, 0))]) y) (by go_simp) (Sts.alloc (stab1 (blkP_stable _ _)) hx _) (fun y hy => hy.below) (fun _ h => h) ?_
      apply ord_norm
      · go_simp; rfl
      clear hx
      apply ord_eff (ho := rfl)
      · go_simp
      intro t ht
      refine eff_agg (ht.swap) (stab1 (blkP_stable _ _)) (.tmp 5) (.tmp 10) 25 rfl cA rfl rfl (by rw [HZA.out.1]; exact sizeCmd) (by rw [HZA.out.1]; rfl) HZA.out.2 (Up V) (fun z hz => hz.below) ?_
      apply ord_norm
      · go_simp; rfl
      clear ht
      apply ord_eff (ho := rfl)
      · go_simp
      intro t ht
      refine eff_agg (ht.swap) (stab1 (blkP_stable _ _)) (.tmp 6) (.tmp 12) 25 rfl cB rfl rfl (by rw [HZB.out.1]; exact sizeCmd) (by rw [HZB.out.1]; rfl) HZB.out.2 (Up V) (fun z hz => hz.below) ?_
      apply ord_norm
      · go_simp; rfl
      clear ht
      apply ord_nil
      intro y hy
      have HY := hid hy
      clear hy
      have HUP := hid HY.out.below
      obtain ⟨⟨c0, c1, c2, c3⟩, ⟨c9, c10, c11⟩, -⟩ := HX1.out y HUP.out
      obtain ⟨⟨e0, e1, e2, e3⟩, ⟨e9, e10, e11⟩, -⟩ := HX2.out y HUP.out
      obtain ⟨j0, j1, j2, j3, j4⟩ := HCA.out _ _ _ _ HY.out.swap
      obtain ⟨i0, i1, i2, i3, i4⟩ := HCB.out _ _ _ _ HY.out
      have HBY := hid (below_step HB.out HUP.out)
      have g3 := HC3.out y HBY.out
      have g4 := HC4.out y HBY.out
      go_wp2_with fail
      all_goals (go_ret; exact ⟨rfl, HBY.out⟩)
    · apply ord_eff (ho := rfl)
      · go_simp
      intro g6 hx
      refine eff_value (v := .pointer (some ⟨g6.heap.size, 0, none⟩)) (w := g6.alloc (.cells #[.int .i64 0, .int .i64 0, .int .i64 0, .slice none 0 0, .slice none 0 0] 25)) (Up V) (fun y => Sts V (blkP g6.heap.size (.cells #[.int .i64 0, .int .i64 0, .int .i64 0, .slice none 0 0, .slice none 0 0] 25 (0, 0)) :: []) y) (by go_simp) (Sts.alloc stab0 hx _) (fun y hy => hy.below) (fun _ h => h) ?_
      apply ord_norm
      · go_simp; rfl
      clear hx
      apply ord_eff (ho := rfl)
      · go_simp
      intro g5 hx
      refine eff_value (v := .pointer (some ⟨g5.heap.size, 0, none⟩)) (w := g5.alloc (.cells #[.int .i64 0, .int .i64 0, .int .i64 0, .slice none 0 0, .slice none 0 0] 25)) (Up V) (fun y => Sts V (blkP g5.heap.size (.cells #[.int .i64 0, .int .i64 0, .int .i64 0, .slice none 0 0, .slice none 0 0] 25 (0, 0)) :: [blkP g6.heap.size (.cells #[.int .i64 0, .int .i64 0, .int .i64 0, .slice none 0 0, .slice none 0 0] 25 (0, 0))]) y) (by go_simp) (Sts.alloc (stab1 (blkP_stable _ _)) hx _) (fun y hy => hy.below) (fun _ h => h) ?_
      apply ord_norm
      · go_simp; rfl
      clear hx
      apply ord_eff (ho := rfl)
      · go_simp
      intro t ht
      refine eff_agg (ht) (stab1 (blkP_stable _ _)) (.tmp 5) (.tmp 10) 25 rfl cA rfl rfl (by rw [HZA.out.1]; exact sizeCmd) (by rw [HZA.out.1]; rfl) HZA.out.2 (Up V) (fun z hz => hz.below) ?_
      apply ord_norm
      · go_simp; rfl
      clear ht
      apply ord_eff (ho := rfl)
      · go_simp
      intro t ht
      refine eff_agg (ht.swap) (stab1 (blkP_stable _ _)) (.tmp 6) (.tmp 12) 25 rfl cB rfl rfl (by rw [HZB.out.1]; exact sizeCmd) (by rw [HZB.out.1]; rfl) HZB.out.2 (Up V) (fun z hz => hz.below) ?_
      apply ord_norm
      · go_simp; rfl
      clear ht
      apply ord_nil
      intro y hy
      have HY := hid hy
      clear hy
      have HUP := hid HY.out.below
      obtain ⟨⟨c0, c1, c2, c3⟩, ⟨c9, c10, c11⟩, -⟩ := HX1.out y HUP.out
      obtain ⟨⟨e0, e1, e2, e3⟩, ⟨e9, e10, e11⟩, -⟩ := HX2.out y HUP.out
      obtain ⟨j0, j1, j2, j3, j4⟩ := HCA.out _ _ _ _ HY.out.swap
      obtain ⟨i0, i1, i2, i3, i4⟩ := HCB.out _ _ _ _ HY.out
      have HBY := hid (below_step HB.out HUP.out)
      have g3 := HC3.out y HBY.out
      have g4 := HC4.out y HBY.out
      go_wp2_with fail
      all_goals (go_ret; exact ⟨rfl, HBY.out⟩)
  subst h3
  by_cases h5 : q1 = q2
  case neg =>
    have hr0 : r = false := by rw [hrg]; simp [h5]
    have f1 : (q1 == q2) = false := by simp [h5]
    subst hr0
    clear hrg
    go_enter Tryd.func26, Tryd.ntmps26
    go_wp2_with fail
    refine wp_region_ord (.pure 0 (.pure 1 (.pure 2 (.pure 3 (.eff2 4 5 (.eff 5 (.eff 6 (.eff 7 .nil))) (.eff 4 (.eff 6 (.eff 7 .nil)))))))) (Up V) (fun y => Sts V [] y) (by kernel_rfl) (by kernel_rfl) (by rw [← HVE.out]; exact Sts.nil_below HD0.out) (fun y hy => hy.below) ?_
    apply ord_pure (ho := rfl)
    · go_simp
    · intro x hx; go_simp; rfl
    apply ord_norm
    · go_simp; rfl
    apply ord_pure (v := .agg cA) (ho := rfl)
    · go_simp
    · exact fun x hx => exec_ld (.tmp 9) 25 rfl rfl (HX1.out x hx).2.2
    apply ord_norm
    · go_simp; rfl
    apply ord_pure (ho := rfl)
    · go_simp
    · intro x hx; go_simp; rfl
    apply ord_norm
    · go_simp; rfl
    apply ord_pure (v := .agg cB) (ho := rfl)
    · go_simp
    · exact fun x hx => exec_ld (.tmp 11) 25 rfl rfl (HX2.out x hx).2.2
    apply ord_norm
    · go_simp; rfl
    refine ord_eff2 ?_ ?_
    · apply ord_eff (ho := rfl)
      · go_simp
      intro g5 hx
      refine eff_value (v := .pointer (some ⟨g5.heap.size, 0, none⟩)) (w := g5.alloc (.cells #[.int .i64 0, .int .i64 0, .int .i64 0, .slice none 0 0, .slice none 0 0] 25)) (Up V) (fun y => Sts V (blkP g5.heap.size (.cells #[.int .i64 0, .int .i64 0, .int .i64 0, .slice none 0 0, .slice none 0 0] 25 (0, 0)) :: []) y) (by go_simp) (Sts.alloc stab0 hx _) (fun y hy => hy.below) (fun _ h => h) ?_
      apply ord_norm
      · go_simp; rfl
      clear hx
      apply ord_eff (ho := rfl)
      · go_simp
      intro g6 hx
      refine eff_value (v := .pointer (some ⟨g6.heap.size, 0, none⟩)) (w := g6.alloc (.cells #[.int .i64 0, .int .i64 0, .int .i64 0, .slice none 0 0, .slice none 0 0] 25)) (Up V) (fun y => Sts V (blkP g6.heap.size (.cells #[.int .i64 0, .int .i64 0, .int .i64 0, .slice none 0 0, .slice none 0 0] 25 (0, 0)) :: [blkP g5.heap.size (.cells #[.int .i64 0, .int .i64 0, .int .i64 0, .slice none 0 0, .slice none 0 0] 25 (0, 0))]) y) (by go_simp) (Sts.alloc (stab1 (blkP_stable _ _)) hx _) (fun y hy => hy.below) (fun _ h => h) ?_
      apply ord_norm
      · go_simp; rfl
      clear hx
      apply ord_eff (ho := rfl)
      · go_simp
      intro t ht
      refine eff_agg (ht.swap) (stab1 (blkP_stable _ _)) (.tmp 5) (.tmp 10) 25 rfl cA rfl rfl (by rw [HZA.out.1]; exact sizeCmd) (by rw [HZA.out.1]; rfl) HZA.out.2 (Up V) (fun z hz => hz.below) ?_
      apply ord_norm
      · go_simp; rfl
      clear ht
      apply ord_eff (ho := rfl)
      · go_simp
      intro t ht
      refine eff_agg (ht.swap) (stab1 (blkP_stable _ _)) (.tmp 6) (.tmp 12) 25 rfl cB rfl rfl (by rw [HZB.out.1]; exact sizeCmd) (by rw [HZB.out.1]; rfl) HZB.out.2 (Up V) (fun z hz => hz.below) ?_
      apply ord_norm
      · go_simp; rfl
      clear ht
      apply ord_nil
      intro y hy
      have HY := hid hy
      clear hy
      have HUP := hid HY.out.below
      obtain ⟨⟨c0, c1, c2, c3⟩, ⟨c9, c10, c11⟩, -⟩ := HX1.out y HUP.out
      obtain ⟨⟨e0, e1, e2, e3⟩, ⟨e9, e10, e11⟩, -⟩ := HX2.out y HUP.out
      obtain ⟨j0, j1, j2, j3, j4⟩ := HCA.out _ _ _ _ HY.out.swap
      obtain ⟨i0, i1, i2, i3, i4⟩ := HCB.out _ _ _ _ HY.out
      have HBY := hid (below_step HB.out HUP.out)
      have g3 := HC3.out y HBY.out
      have g4 := HC4.out y HBY.out
      go_wp2_with fail
      all_goals (go_ret; exact ⟨rfl, HBY.out⟩)
    · apply ord_eff (ho := rfl)
      · go_simp
      intro g6 hx
      refine eff_value (v := .pointer (some ⟨g6.heap.size, 0, none⟩)) (w := g6.alloc (.cells #[.int .i64 0, .int .i64 0, .int .i64 0, .slice none 0 0, .slice none 0 0] 25)) (Up V) (fun y => Sts V (blkP g6.heap.size (.cells #[.int .i64 0, .int .i64 0, .int .i64 0, .slice none 0 0, .slice none 0 0] 25 (0, 0)) :: []) y) (by go_simp) (Sts.alloc stab0 hx _) (fun y hy => hy.below) (fun _ h => h) ?_
      apply ord_norm
      · go_simp; rfl
      clear hx
      apply ord_eff (ho := rfl)
      · go_simp
      intro g5 hx
      refine eff_value (v := .pointer (some ⟨g5.heap.size, 0, none⟩)) (w := g5.alloc (.cells #[.int .i64 0, .int .i64 0, .int .i64 0, .slice none 0 0, .slice none 0 0] 25)) (Up V) (fun y => Sts V (blkP g5.heap.size (.cells #[.int .i64 0, .int .i64 0, .int .i64 0, .slice none 0 0, .slice none 0 0] 25 (0, 0)) :: [blkP g6.heap.size (.cells #[.int .i64 0, .int .i64 0, .int .i64 0, .slice none 0 0, .slice none 0 0] 25 (0, 0))]) y) (by go_simp) (Sts.alloc (stab1 (blkP_stable _ _)) hx _) (fun y hy => hy.below) (fun _ h => h) ?_
      apply ord_norm
      · go_simp; rfl
      clear hx
      apply ord_eff (ho := rfl)
      · go_simp
      intro t ht
      refine eff_agg (ht) (stab1 (blkP_stable _ _)) (.tmp 5) (.tmp 10) 25 rfl cA rfl rfl (by rw [HZA.out.1]; exact sizeCmd) (by rw [HZA.out.1]; rfl) HZA.out.2 (Up V) (fun z hz => hz.below) ?_
      apply ord_norm
      · go_simp; rfl
      clear ht
      apply ord_eff (ho := rfl)
      · go_simp
      intro t ht
      refine eff_agg (ht.swap) (stab1 (blkP_stable _ _)) (.tmp 6) (.tmp 12) 25 rfl cB rfl rfl (by rw [HZB.out.1]; exact sizeCmd) (by rw [HZB.out.1]; rfl) HZB.out.2 (Up V) (fun z hz => hz.below) ?_
      apply ord_norm
      · go_simp; rfl
      clear ht
      apply ord_nil
      intro y hy
      have HY := hid hy
      clear hy
      have HUP := hid HY.out.below
      obtain ⟨⟨c0, c1, c2, c3⟩, ⟨c9, c10, c11⟩, -⟩ := HX1.out y HUP.out
      obtain ⟨⟨e0, e1, e2, e3⟩, ⟨e9, e10, e11⟩, -⟩ := HX2.out y HUP.out
      obtain ⟨j0, j1, j2, j3, j4⟩ := HCA.out _ _ _ _ HY.out.swap
      obtain ⟨i0, i1, i2, i3, i4⟩ := HCB.out _ _ _ _ HY.out
      have HBY := hid (below_step HB.out HUP.out)
      have g3 := HC3.out y HBY.out
      have g4 := HC4.out y HBY.out
      go_wp2_with fail
      all_goals (go_ret; exact ⟨rfl, HBY.out⟩)
  subst h5
  go_enter Tryd.func26, Tryd.ntmps26
  go_wp2_with fail
  refine wp_region_ord (.pure 0 (.pure 1 (.pure 2 (.pure 3 (.eff2 4 5 (.eff 5 (.eff 6 (.eff 7 .nil))) (.eff 4 (.eff 6 (.eff 7 .nil)))))))) (Up V) (fun y => Sts V [] y) (by kernel_rfl) (by kernel_rfl) (by rw [← HVE.out]; exact Sts.nil_below HD0.out) (fun y hy => hy.below) ?_
  apply ord_pure (ho := rfl)
  · go_simp
  · intro x hx; go_simp; rfl
  apply ord_norm
  · go_simp; rfl
  apply ord_pure (v := .agg cA) (ho := rfl)
  · go_simp
  · exact fun x hx => exec_ld (.tmp 9) 25 rfl rfl (HX1.out x hx).2.2
  apply ord_norm
  · go_simp; rfl
  apply ord_pure (ho := rfl)
  · go_simp
  · intro x hx; go_simp; rfl
  apply ord_norm
  · go_simp; rfl
  apply ord_pure (v := .agg cB) (ho := rfl)
  · go_simp
  · exact fun x hx => exec_ld (.tmp 11) 25 rfl rfl (HX2.out x hx).2.2
  apply ord_norm
  · go_simp; rfl
  refine ord_eff2 ?_ ?_
  · apply ord_eff (ho := rfl)
    · go_simp
    intro g5 hx
    refine eff_value (v := .pointer (some ⟨g5.heap.size, 0, none⟩)) (w := g5.alloc (.cells #[.int .i64 0, .int .i64 0, .int .i64 0, .slice none 0 0, .slice none 0 0] 25)) (Up V) (fun y => Sts V (blkP g5.heap.size (.cells #[.int .i64 0, .int .i64 0, .int .i64 0, .slice none 0 0, .slice none 0 0] 25 (0, 0)) :: []) y) (by go_simp) (Sts.alloc stab0 hx _) (fun y hy => hy.below) (fun _ h => h) ?_
    apply ord_norm
    · go_simp; rfl
    clear hx
    apply ord_eff (ho := rfl)
    · go_simp
    intro g6 hx
    refine eff_value (v := .pointer (some ⟨g6.heap.size, 0, none⟩)) (w := g6.alloc (.cells #[.int .i64 0, .int .i64 0, .int .i64 0, .slice none 0 0, .slice none 0 0] 25)) (Up V) (fun y => Sts V (blkP g6.heap.size (.cells #[.int .i64 0, .int .i64 0, .int .i64 0, .slice none 0 0, .slice none 0 0] 25 (0, 0)) :: [blkP g5.heap.size (.cells #[.int .i64 0, .int .i64 0, .int .i64 0, .slice none 0 0, .slice none 0 0] 25 (0, 0))]) y) (by go_simp) (Sts.alloc (stab1 (blkP_stable _ _)) hx _) (fun y hy => hy.below) (fun _ h => h) ?_
    apply ord_norm
    · go_simp; rfl
    clear hx
    apply ord_eff (ho := rfl)
    · go_simp
    intro t ht
    refine eff_agg (ht.swap) (stab1 (blkP_stable _ _)) (.tmp 5) (.tmp 10) 25 rfl cA rfl rfl (by rw [HZA.out.1]; exact sizeCmd) (by rw [HZA.out.1]; rfl) HZA.out.2 (Up V) (fun z hz => hz.below) ?_
    apply ord_norm
    · go_simp; rfl
    clear ht
    apply ord_eff (ho := rfl)
    · go_simp
    intro t ht
    refine eff_agg (ht.swap) (stab1 (blkP_stable _ _)) (.tmp 6) (.tmp 12) 25 rfl cB rfl rfl (by rw [HZB.out.1]; exact sizeCmd) (by rw [HZB.out.1]; rfl) HZB.out.2 (Up V) (fun z hz => hz.below) ?_
    apply ord_norm
    · go_simp; rfl
    clear ht
    apply ord_nil
    intro y hy
    have HY := hid hy
    clear hy
    have HUP := hid HY.out.below
    obtain ⟨⟨c0, c1, c2, c3⟩, ⟨c9, c10, c11⟩, -⟩ := HX1.out y HUP.out
    obtain ⟨⟨e0, e1, e2, e3⟩, ⟨e9, e10, e11⟩, -⟩ := HX2.out y HUP.out
    obtain ⟨j0, j1, j2, j3, j4⟩ := HCA.out _ _ _ _ HY.out.swap
    obtain ⟨i0, i1, i2, i3, i4⟩ := HCB.out _ _ _ _ HY.out
    have HBY := hid (below_step HB.out HUP.out)
    have g3 := HC3.out y HBY.out
    have g4 := HC4.out y HBY.out
    go_wp2_with fail
    have HYU := hid (Below.refl y.heap.size y)
    clear g3 g4 j0 j1 j2 j4 i0 i1 i2 i4 c0 c1 c2 c3 c9 c10 c11 e0 e1 e2 e3 e9 e10 e11
    have HHX := hid (fun t (ht : Below y.heap.size y t) => HX1.out t (below_step HUP.out ht))
    have HHX2 := hid (fun t (ht : Below y.heap.size y t) => HX2.out t (below_step HUP.out ht))
    have HI3 := hid i3
    clear i3 j3
    obtain ⟨Y, rfl⟩ : ∃ Y, Y = y := ⟨_, rfl⟩
    go_loopw [53] (fun i wz => ∃ k : Nat, k ≤ L1 ∧ i = .int .i64 k ∧ Hid (∀ j (h1 : j < l1.length) (h2 : j < l2.length), j < k → l1[j] = l2[j]) ∧ Hid (Below Y.heap.size Y wz)) (fun i _ => L1 - (intOf i).toNat)
    case atStart => exact ⟨0, by omega, rfl, hid (fun j h1 h2 h3 => by omega), HYU⟩
    case round =>
      obtain ⟨k, hk, rfl, HI, HW⟩ := hrel
      have HBZ := hid (below_step HBY.out HW.out)
      have i3 := cell_below HW.out HI3.out
      by_cases hlt : k < L1
      · have hk1 : k < l1.length := by rw [← HL1.out]; exact hlt
        have hk2 : k < l2.length := by rw [← HL2.out]; exact hlt
        obtain ⟨b1, o1, rfl, hc1⟩ := ints_cell HA1.out HBZ.out hk1
        obtain ⟨b2, o2, rfl, hc2⟩ := ints_cell HA2.out HBZ.out hk2
        by_cases heq : l1[k] = l2[k]
        · have HI2 := hid (show ∀ j (h1 : j < l1.length) (h2 : j < l2.length), j < k + 1 → l1[j] = l2[j] from fun j h1 h2 h3 => by
            by_cases e : j = k
            · subst e; exact heq
            · exact HI.out j h1 h2 (by omega))
          rw [← heq] at hc2
          obtain ⟨n, hn⟩ : ∃ n, n = l1[k] := ⟨_, rfl⟩
          rw [← hn] at hc1 hc2
          clear hn heq
          go_wp2_with fail
          all_goals (go_roundw
                     case rel => exact ⟨k + 1, by omega, by simp, HI2, HW⟩
                     case measure => first | (simp [intOf]; done) | (simp [intOf]; omega))
        · have hr0 : r = false := by rw [hrg]; simp [ne_at hk1 hk2 heq]
          obtain ⟨n, hn⟩ : ∃ n, n = l1[k] := ⟨_, rfl⟩
          obtain ⟨m, hm⟩ : ∃ m, m = l2[k] := ⟨_, rfl⟩
          rw [← hn] at hc1
          rw [← hm] at hc2
          rw [← hn, ← hm] at heq
          have f1 : (n == m) = false := by simp [heq]
          clear hrg hn hm
          subst hr0
          go_wp2_with fail
          all_goals (go_ret; exact ⟨rfl, HBZ.out⟩)
      · have hkL : k = L1 := by omega
        have hll : l1 = l2 := eq_all (by rw [← HL1.out, ← HL2.out]) (fun j h1 h2 => HI.out j h1 h2 (by rw [hkL, HL1.out]; exact h1))
        subst hll
        obtain ⟨⟨c0, c1, c2, c3⟩, ⟨c9, c10, c11⟩, -⟩ := HHX.out wr HW.out
        obtain ⟨⟨e0, e1, e2, e3⟩, ⟨e9, e10, e11⟩, -⟩ := HHX2.out wr HW.out
        have t3 := HC1.out wr HBZ.out
        have t4 := HC2.out wr HBZ.out
        clear i3
        by_cases h1 : k1 = k2
        case neg =>
          have hr0 : r = false := by rw [hrg]; simp [h1]
          have f1 : (k1 == k2) = false := by simp [h1]
          subst hr0
          clear hrg
          go_wp2_with fail
          all_goals (go_ret; exact ⟨rfl, HBZ.out⟩)
        subst h1
        by_cases h2 : n1 = n2
        case neg =>
          have hr0 : r = false := by rw [hrg]; simp [h2]
          have f1 : (n1 == n2) = false := by simp [h2]
          subst hr0
          clear hrg
          go_wp2_with fail
          all_goals (go_ret; exact ⟨rfl, HBZ.out⟩)
        subst h2
        by_cases h3 : m1 = m2
        case neg =>
          have hr0 : r = false := by rw [hrg]; simp [h3]
          have f1 : (m1 == m2) = false := by simp [h3]
          subst hr0
          clear hrg
          go_wp2_with fail
          all_goals (go_ret; exact ⟨rfl, HBZ.out⟩)
        subst h3
        by_cases h4 : d1 = d2
        case neg =>
          have hr0 : r = false := by rw [hrg]; simp [h4]
          have f1 : (d1 == d2) = false := by simp [h4]
          subst hr0
          clear hrg
          go_wp2_with fail
          all_goals (go_ret; exact ⟨rfl, HBZ.out⟩)
        subst h4
        by_cases h5 : x1 = x2
        case neg =>
          have hr0 : r = false := by rw [hrg]; simp [h5]
          have f1 : (x1 == x2) = false := by simp [h5]
          subst hr0
          clear hrg
          go_wp2_with fail
          all_goals (go_ret; exact ⟨rfl, HBZ.out⟩)
        subst h5
        by_cases h6 : y1 = y2
        case neg =>
          have hr0 : r = false := by rw [hrg]; simp [h6]
          have f1 : (y1 == y2) = false := by simp [h6]
          subst hr0
          clear hrg
          go_wp2_with fail
          all_goals (go_ret; exact ⟨rfl, HBZ.out⟩)
        subst h6
        by_cases h7 : z1 = z2
        case neg =>
          have hr0 : r = false := by rw [hrg]; simp [h7]
          have f1 : (z1 == z2) = false := by simp [h7]
          subst hr0
          clear hrg
          go_wp2_with fail
          all_goals (go_ret; exact ⟨rfl, HBZ.out⟩)
        subst h7
        have hr0 : r = true := by rw [hrg]; simp
        subst hr0
        clear hrg
        go_wp2_with fail
        all_goals (go_ret; exact ⟨rfl, HBZ.out⟩)
  · apply ord_eff (ho := rfl)
    · go_simp
    intro g6 hx
    refine eff_value (v := .pointer (some ⟨g6.heap.size, 0, none⟩)) (w := g6.alloc (.cells #[.int .i64 0, .int .i64 0, .int .i64 0, .slice none 0 0, .slice none 0 0] 25)) (Up V) (fun y => Sts V (blkP g6.heap.size (.cells #[.int .i64 0, .int .i64 0, .int .i64 0, .slice none 0 0, .slice none 0 0] 25 (0, 0)) :: []) y) (by go_simp) (Sts.alloc stab0 hx _) (fun y hy => hy.below) (fun _ h => h) ?_
    apply ord_norm
    · go_simp; rfl
    clear hx
    apply ord_eff (ho := rfl)
    · go_simp
    intro g5 hx
    refine eff_value (v := .pointer (some ⟨g5.heap.size, 0, none⟩)) (w := g5.alloc (.cells #[.int .i64 0, .int .i64 0, .int .i64 0, .slice none 0 0, .slice none 0 0] 25)) (Up V) (fun y => Sts V (blkP g5.heap.size (.cells #[.int .i64 0, .int .i64 0, .int .i64 0, .slice none 0 0, .slice none 0 0] 25 (0, 0)) :: [blkP g6.heap.size (.cells #[.int .i64 0, .int .i64 0, .int .i64 0, .slice none 0 0, .slice none 0 0] 25 (0, 0))]) y) (by go_simp) (Sts.alloc (stab1 (blkP_stable _ _)) hx _) (fun y hy => hy.below) (fun _ h => h) ?_
    apply ord_norm
    · go_simp; rfl
    clear hx
    apply ord_eff (ho := rfl)
    · go_simp
    intro t ht
    refine eff_agg (ht) (stab1 (blkP_stable _ _)) (.tmp 5) (.tmp 10) 25 rfl cA rfl rfl (by rw [HZA.out.1]; exact sizeCmd) (by rw [HZA.out.1]; rfl) HZA.out.2 (Up V) (fun z hz => hz.below) ?_
    apply ord_norm
    · go_simp; rfl
    clear ht
    apply ord_eff (ho := rfl)
    · go_simp
    intro t ht
    refine eff_agg (ht.swap) (stab1 (blkP_stable _ _)) (.tmp 6) (.tmp 12) 25 rfl cB rfl rfl (by rw [HZB.out.1]; exact sizeCmd) (by rw [HZB.out.1]; rfl) HZB.out.2 (Up V) (fun z hz => hz.below) ?_
    apply ord_norm
    · go_simp; rfl
    clear ht
    apply ord_nil
    intro y hy
    have HY := hid hy
    clear hy
    have HUP := hid HY.out.below
    obtain ⟨⟨c0, c1, c2, c3⟩, ⟨c9, c10, c11⟩, -⟩ := HX1.out y HUP.out
    obtain ⟨⟨e0, e1, e2, e3⟩, ⟨e9, e10, e11⟩, -⟩ := HX2.out y HUP.out
    obtain ⟨j0, j1, j2, j3, j4⟩ := HCA.out _ _ _ _ HY.out.swap
    obtain ⟨i0, i1, i2, i3, i4⟩ := HCB.out _ _ _ _ HY.out
    have HBY := hid (below_step HB.out HUP.out)
    have g3 := HC3.out y HBY.out
    have g4 := HC4.out y HBY.out
    go_wp2_with fail
    have HYU := hid (Below.refl y.heap.size y)
    clear g3 g4 j0 j1 j2 j4 i0 i1 i2 i4 c0 c1 c2 c3 c9 c10 c11 e0 e1 e2 e3 e9 e10 e11
    have HHX := hid (fun t (ht : Below y.heap.size y t) => HX1.out t (below_step HUP.out ht))
    have HHX2 := hid (fun t (ht : Below y.heap.size y t) => HX2.out t (below_step HUP.out ht))
    have HI3 := hid i3
    clear i3 j3
    obtain ⟨Y, rfl⟩ : ∃ Y, Y = y := ⟨_, rfl⟩
    go_loopw [53] (fun i wz => ∃ k : Nat, k ≤ L1 ∧ i = .int .i64 k ∧ Hid (∀ j (h1 : j < l1.length) (h2 : j < l2.length), j < k → l1[j] = l2[j]) ∧ Hid (Below Y.heap.size Y wz)) (fun i _ => L1 - (intOf i).toNat)
    case atStart => exact ⟨0, by omega, rfl, hid (fun j h1 h2 h3 => by omega), HYU⟩
    case round =>
      obtain ⟨k, hk, rfl, HI, HW⟩ := hrel
      have HBZ := hid (below_step HBY.out HW.out)
      have i3 := cell_below HW.out HI3.out
      by_cases hlt : k < L1
      · have hk1 : k < l1.length := by rw [← HL1.out]; exact hlt
        have hk2 : k < l2.length := by rw [← HL2.out]; exact hlt
        obtain ⟨b1, o1, rfl, hc1⟩ := ints_cell HA1.out HBZ.out hk1
        obtain ⟨b2, o2, rfl, hc2⟩ := ints_cell HA2.out HBZ.out hk2
        by_cases heq : l1[k] = l2[k]
        · have HI2 := hid (show ∀ j (h1 : j < l1.length) (h2 : j < l2.length), j < k + 1 → l1[j] = l2[j] from fun j h1 h2 h3 => by
            by_cases e : j = k
            · subst e; exact heq
            · exact HI.out j h1 h2 (by omega))
          rw [← heq] at hc2
          obtain ⟨n, hn⟩ : ∃ n, n = l1[k] := ⟨_, rfl⟩
          rw [← hn] at hc1 hc2
          clear hn heq
          go_wp2_with fail
          all_goals (go_roundw
                     case rel => exact ⟨k + 1, by omega, by simp, HI2, HW⟩
                     case measure => first | (simp [intOf]; done) | (simp [intOf]; omega))
        · have hr0 : r = false := by rw [hrg]; simp [ne_at hk1 hk2 heq]
          obtain ⟨n, hn⟩ : ∃ n, n = l1[k] := ⟨_, rfl⟩
          obtain ⟨m, hm⟩ : ∃ m, m = l2[k] := ⟨_, rfl⟩
          rw [← hn] at hc1
          rw [← hm] at hc2
          rw [← hn, ← hm] at heq
          have f1 : (n == m) = false := by simp [heq]
          clear hrg hn hm
          subst hr0
          go_wp2_with fail
          all_goals (go_ret; exact ⟨rfl, HBZ.out⟩)
      · have hkL : k = L1 := by omega
        have hll : l1 = l2 := eq_all (by rw [← HL1.out, ← HL2.out]) (fun j h1 h2 => HI.out j h1 h2 (by rw [hkL, HL1.out]; exact h1))
        subst hll
        obtain ⟨⟨c0, c1, c2, c3⟩, ⟨c9, c10, c11⟩, -⟩ := HHX.out wr HW.out
        obtain ⟨⟨e0, e1, e2, e3⟩, ⟨e9, e10, e11⟩, -⟩ := HHX2.out wr HW.out
        have t3 := HC1.out wr HBZ.out
        have t4 := HC2.out wr HBZ.out
        clear i3
        by_cases h1 : k1 = k2
        case neg =>
          have hr0 : r = false := by rw [hrg]; simp [h1]
          have f1 : (k1 == k2) = false := by simp [h1]
          subst hr0
          clear hrg
          go_wp2_with fail
          all_goals (go_ret; exact ⟨rfl, HBZ.out⟩)
        subst h1
        by_cases h2 : n1 = n2
        case neg =>
          have hr0 : r = false := by rw [hrg]; simp [h2]
          have f1 : (n1 == n2) = false := by simp [h2]
          subst hr0
          clear hrg
          go_wp2_with fail
          all_goals (go_ret; exact ⟨rfl, HBZ.out⟩)
        subst h2
        by_cases h3 : m1 = m2
        case neg =>
          have hr0 : r = false := by rw [hrg]; simp [h3]
          have f1 : (m1 == m2) = false := by simp [h3]
          subst hr0
          clear hrg
          go_wp2_with fail
          all_goals (go_ret; exact ⟨rfl, HBZ.out⟩)
        subst h3
        by_cases h4 : d1 = d2
        case neg =>
          have hr0 : r = false := by rw [hrg]; simp [h4]
          have f1 : (d1 == d2) = false := by simp [h4]
          subst hr0
          clear hrg
          go_wp2_with fail
          all_goals (go_ret; exact ⟨rfl, HBZ.out⟩)
        subst h4
        by_cases h5 : x1 = x2
        case neg =>
          have hr0 : r = false := by rw [hrg]; simp [h5]
          have f1 : (x1 == x2) = false := by simp [h5]
          subst hr0
          clear hrg
          go_wp2_with fail
          all_goals (go_ret; exact ⟨rfl, HBZ.out⟩)
        subst h5
        by_cases h6 : y1 = y2
        case neg =>
          have hr0 : r = false := by rw [hrg]; simp [h6]
          have f1 : (y1 == y2) = false := by simp [h6]
          subst hr0
          clear hrg
          go_wp2_with fail
          all_goals (go_ret; exact ⟨rfl, HBZ.out⟩)
        subst h6
        by_cases h7 : z1 = z2
        case neg =>
          have hr0 : r = false := by rw [hrg]; simp [h7]
          have f1 : (z1 == z2) = false := by simp [h7]
          subst hr0
          clear hrg
          go_wp2_with fail
          all_goals (go_ret; exact ⟨rfl, HBZ.out⟩)
        subst h7
        have hr0 : r = true := by rw [hrg]; simp
        subst hr0
        clear hrg
        go_wp2_with fail
        all_goals (go_ret; exact ⟨rfl, HBZ.out⟩)
end
end Go.Proofs.YtimnhheagdhpgaaDoor
