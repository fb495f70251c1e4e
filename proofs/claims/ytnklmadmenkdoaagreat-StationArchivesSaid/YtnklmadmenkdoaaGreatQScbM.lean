/- The link control word of zeros. The link control word of zeros, read. The frames of the downlink: valid. -/
import Derived.Test.YtnklmadmenkdoaaGreatQScbJ
import Derived.Test.YtnklmadmenkdoaaGreatQSndI
set_option linter.unusedVariables false
set_option linter.unusedSimpArgs false
namespace Go.Proofs.YtnklmadmenkdoaaGreat
open Go.RowKit Go.Shelf Go.Proofs.Num
def clcZ : Array Value := #[.int .i64 0, .bool false, .bool false, .bool false, .int .i64 0, .int .i64 0]
set_option maxRecDepth 100000 in
theorem cClcwFlag (w : World) : Calls Tryz.prog 238 #[.bool false] w fun e w' => e = .returned (.int .u64 0) ∧ w = w' := by
  go_enter Tryz.func238, Tryz.ntmps238
  go_wp2
  go_ret
  exact ⟨rfl, rfl⟩
set_option maxRecDepth 100000 in
theorem cClcwValid (w : World) : Calls Tryz.prog 131 #[.agg clcZ] w fun e w' => e = .returned (.bool true) ∧ Below w.heap.size w w' := by
  have HB : Hid (Below w.heap.size w (w.alloc (.cells clcZ 72))) := hid ((Below.refl _ _).alloc (Nat.le_refl _) _)
  unfold clcZ at *
  go_enter Tryz.func131, Tryz.ntmps131
  go_wp2
  go_ret
  exact ⟨rfl, HB.out⟩
set_option maxRecDepth 100000 in
set_option maxHeartbeats 4000000 in
theorem cClcwEnc (w : World) : Calls Tryz.prog 167 #[.agg clcZ] w fun e w' => ∃ r, e = .returned (.tuple #[r, .int .i64 0]) ∧ New w w' 5 r (u8s [1, 0, 0, 0]) := by
  have HS : Hid (Sts w (blkP w.heap.size (.cells #[.int .i64 0, .bool false, .bool false, .bool false, .int .i64 0, .int .i64 0] 72 (0, 0)) :: []) (w.alloc (.cells #[.int .i64 0, .bool false, .bool false, .bool false, .int .i64 0, .int .i64 0] 72))) := hid (Sts.alloc stab0 (Sts.nil w) _)
  have HLB : Hid (∀ B ∈ [blkP w.heap.size (.cells #[.int .i64 0, .bool false, .bool false, .bool false, .int .i64 0, .int .i64 0] 72 (0, 0))], Stable B) := hid (stabC (blkP_stable _ _) stab0)
  unfold clcZ
  have g0 : IntKind.u64.wrap 0 = 0 := by decide
  have hld : (loadVar 72 ⟨w.heap.size, 0, none⟩).run Tryz.prog (w.alloc (.cells #[.int .i64 0, .bool false, .bool false, .bool false, .int .i64 0, .int .i64 0] 72)) = .ok (.agg #[.int .i64 0, .bool false, .bool false, .bool false, .int .i64 0, .int .i64 0]) (w.alloc (.cells #[.int .i64 0, .bool false, .bool false, .bool false, .int .i64 0, .int .i64 0] 72)) := by go_simp
  have HV := hid (show Calls Tryz.prog 131 #[.agg #[.int .i64 0, .bool false, .bool false, .bool false, .int .i64 0, .int .i64 0]] (w.alloc (.cells #[.int .i64 0, .bool false, .bool false, .bool false, .int .i64 0, .int .i64 0] 72)) _ from cClcwValid (w.alloc (.cells #[.int .i64 0, .bool false, .bool false, .bool false, .int .i64 0, .int .i64 0] 72)))
  go_enter Tryz.func167, Tryz.ntmps167
  go_wp2_with (first
    | (go_at_call 131; refine HV.out.mono ?_; rintro e w1 ⟨rfl, h1⟩; have H1 := hid (HS.out.quiet HLB.out h1); clear h1)
    | (go_at_call 165; refine (cBitNew HLB.out H1.out).mono ?_; rintro e w2 ⟨q, rfl, h2⟩; have HP := hid (bw_new h2); clear h2))
  refine wp_region_ordQ (.pure 0 (.pure 3 (.pure 4 (.pure 5 (.eff 1 (.eff 2 (.eff 6 (.eff 7 .nil)))))))) (fun y => y.cell? ⟨w.heap.size, 0, none⟩ = some (.int .i64 0) ∧ y.cell? ⟨w.heap.size, 1, none⟩ = some (.bool false) ∧ y.cell? ⟨w.heap.size, 2, none⟩ = some (.bool false) ∧ y.cell? ⟨w.heap.size, 3, none⟩ = some (.bool false) ∧ y.cell? ⟨w.heap.size, 4, none⟩ = some (.int .i64 0) ∧ y.cell? ⟨w.heap.size, 5, none⟩ = some (.int .i64 0)) (fun y => Sts w (bwP q 0 0 :: [blkP w.heap.size (.cells #[.int .i64 0, .bool false, .bool false, .bool false, .int .i64 0, .int .i64 0] 72 (0, 0))]) y) (by kernel_rfl) (by kernel_rfl) (HP.out.drew (stabC (bwP_stable _ _ _) HLB.out)) (fun y hy => ⟨(Sts.boxCell hy.tail 0 _ rfl).1, (Sts.boxCell hy.tail 1 _ rfl).1, (Sts.boxCell hy.tail 2 _ rfl).1, (Sts.boxCell hy.tail 3 _ rfl).1, (Sts.boxCell hy.tail 4 _ rfl).1, (Sts.boxCell hy.tail 5 _ rfl).1⟩) ?_
  iterate 4
    (apply ordq_pure (ho := rfl)
     · go_simp
     · intro x hx; obtain ⟨k0, k1, k2, k3, k4, k5⟩ := hx; go_simp; rfl
     apply ordq_norm
     · go_simp; rfl)
  apply ordq_eff (ho := rfl)
  · go_simp
  intro y hy
  refine eff_call (f := 166) (by go_simp) (wPut HLB.out hy (0) 6 (by omega) (by decide) (by decide)) ?_
  rintro e w3 ⟨rfl, h3⟩
  obtain ⟨x1, hx1⟩ : ∃ x, x = 0 * 2 ^ 6 + 0 % 2 ^ 6 := ⟨_, rfl⟩
  replace h3 : Sts w (bwP q 6 x1 :: [blkP w.heap.size (.cells #[.int .i64 0, .bool false, .bool false, .bool false, .int .i64 0, .int .i64 0] 72 (0, 0))]) w3 := by rw [hx1]; exact h3
  have HX1 := hid hx1
  clear hx1
  refine ⟨_, rfl, (fun y => y.cell? ⟨w.heap.size, 0, none⟩ = some (.int .i64 0) ∧ y.cell? ⟨w.heap.size, 1, none⟩ = some (.bool false) ∧ y.cell? ⟨w.heap.size, 2, none⟩ = some (.bool false) ∧ y.cell? ⟨w.heap.size, 3, none⟩ = some (.bool false) ∧ y.cell? ⟨w.heap.size, 4, none⟩ = some (.int .i64 0) ∧ y.cell? ⟨w.heap.size, 5, none⟩ = some (.int .i64 0)), (fun y => Sts w (bwP q 6 x1 :: [blkP w.heap.size (.cells #[.int .i64 0, .bool false, .bool false, .bool false, .int .i64 0, .int .i64 0] 72 (0, 0))]) y), h3, (fun y hy => ⟨(Sts.boxCell hy.tail 0 _ rfl).1, (Sts.boxCell hy.tail 1 _ rfl).1, (Sts.boxCell hy.tail 2 _ rfl).1, (Sts.boxCell hy.tail 3 _ rfl).1, (Sts.boxCell hy.tail 4 _ rfl).1, (Sts.boxCell hy.tail 5 _ rfl).1⟩), (fun _ h => h), ?_⟩
  clear h3 hy y
  apply ordq_norm
  · go_simp; rfl
  apply ordq_eff (ho := rfl)
  · go_simp
  intro y hy
  refine eff_call (f := 166) (by go_simp) (wPut HLB.out hy (1) 2 (by omega) (by decide) (by decide)) ?_
  rintro e w3 ⟨rfl, h3⟩
  obtain ⟨x2, hx2⟩ : ∃ x, x = x1 * 2 ^ 2 + 1 % 2 ^ 2 := ⟨_, rfl⟩
  replace h3 : Sts w (bwP q 8 x2 :: [blkP w.heap.size (.cells #[.int .i64 0, .bool false, .bool false, .bool false, .int .i64 0, .int .i64 0] 72 (0, 0))]) w3 := by rw [hx2]; exact h3
  have HX2 := hid hx2
  clear hx2
  refine ⟨_, rfl, (fun y => y.cell? ⟨w.heap.size, 0, none⟩ = some (.int .i64 0) ∧ y.cell? ⟨w.heap.size, 1, none⟩ = some (.bool false) ∧ y.cell? ⟨w.heap.size, 2, none⟩ = some (.bool false) ∧ y.cell? ⟨w.heap.size, 3, none⟩ = some (.bool false) ∧ y.cell? ⟨w.heap.size, 4, none⟩ = some (.int .i64 0) ∧ y.cell? ⟨w.heap.size, 5, none⟩ = some (.int .i64 0)), (fun y => Sts w (bwP q 8 x2 :: [blkP w.heap.size (.cells #[.int .i64 0, .bool false, .bool false, .bool false, .int .i64 0, .int .i64 0] 72 (0, 0))]) y), h3, (fun y hy => ⟨(Sts.boxCell hy.tail 0 _ rfl).1, (Sts.boxCell hy.tail 1 _ rfl).1, (Sts.boxCell hy.tail 2 _ rfl).1, (Sts.boxCell hy.tail 3 _ rfl).1, (Sts.boxCell hy.tail 4 _ rfl).1, (Sts.boxCell hy.tail 5 _ rfl).1⟩), (fun _ h => h), ?_⟩
  clear h3 hy y
  apply ordq_norm
  · go_simp; rfl
  apply ordq_eff (ho := rfl)
  · go_simp
  intro y hy
  refine eff_call (f := 166) (by go_simp) (wPut HLB.out hy (0) 6 (by omega) (by decide) (by decide)) ?_
  rintro e w3 ⟨rfl, h3⟩
  obtain ⟨x3, hx3⟩ : ∃ x, x = x2 * 2 ^ 6 + 0 % 2 ^ 6 := ⟨_, rfl⟩
  replace h3 : Sts w (bwP q 14 x3 :: [blkP w.heap.size (.cells #[.int .i64 0, .bool false, .bool false, .bool false, .int .i64 0, .int .i64 0] 72 (0, 0))]) w3 := by rw [hx3]; exact h3
  have HX3 := hid hx3
  clear hx3
  refine ⟨_, rfl, (fun y => y.cell? ⟨w.heap.size, 0, none⟩ = some (.int .i64 0) ∧ y.cell? ⟨w.heap.size, 1, none⟩ = some (.bool false) ∧ y.cell? ⟨w.heap.size, 2, none⟩ = some (.bool false) ∧ y.cell? ⟨w.heap.size, 3, none⟩ = some (.bool false) ∧ y.cell? ⟨w.heap.size, 4, none⟩ = some (.int .i64 0) ∧ y.cell? ⟨w.heap.size, 5, none⟩ = some (.int .i64 0)), (fun y => Sts w (bwP q 14 x3 :: [blkP w.heap.size (.cells #[.int .i64 0, .bool false, .bool false, .bool false, .int .i64 0, .int .i64 0] 72 (0, 0))]) y), h3, (fun y hy => ⟨(Sts.boxCell hy.tail 0 _ rfl).1, (Sts.boxCell hy.tail 1 _ rfl).1, (Sts.boxCell hy.tail 2 _ rfl).1, (Sts.boxCell hy.tail 3 _ rfl).1, (Sts.boxCell hy.tail 4 _ rfl).1, (Sts.boxCell hy.tail 5 _ rfl).1⟩), (fun _ h => h), ?_⟩
  clear h3 hy y
  apply ordq_norm
  · go_simp; rfl
  apply ordq_eff (ho := rfl)
  · go_simp
  intro y hy
  refine eff_call (f := 166) (by go_simp) (wPut HLB.out hy (0) 4 (by omega) (by decide) (by decide)) ?_
  rintro e w3 ⟨rfl, h3⟩
  obtain ⟨x4, hx4⟩ : ∃ x, x = x3 * 2 ^ 4 + 0 % 2 ^ 4 := ⟨_, rfl⟩
  replace h3 : Sts w (bwP q 18 x4 :: [blkP w.heap.size (.cells #[.int .i64 0, .bool false, .bool false, .bool false, .int .i64 0, .int .i64 0] 72 (0, 0))]) w3 := by rw [hx4]; exact h3
  have HX4 := hid hx4
  clear hx4
  refine ⟨_, rfl, (fun y => y.cell? ⟨w.heap.size, 0, none⟩ = some (.int .i64 0) ∧ y.cell? ⟨w.heap.size, 1, none⟩ = some (.bool false) ∧ y.cell? ⟨w.heap.size, 2, none⟩ = some (.bool false) ∧ y.cell? ⟨w.heap.size, 3, none⟩ = some (.bool false) ∧ y.cell? ⟨w.heap.size, 4, none⟩ = some (.int .i64 0) ∧ y.cell? ⟨w.heap.size, 5, none⟩ = some (.int .i64 0)), (fun y => Sts w (bwP q 18 x4 :: [blkP w.heap.size (.cells #[.int .i64 0, .bool false, .bool false, .bool false, .int .i64 0, .int .i64 0] 72 (0, 0))]) y), h3, (fun y hy => ⟨(Sts.boxCell hy.tail 0 _ rfl).1, (Sts.boxCell hy.tail 1 _ rfl).1, (Sts.boxCell hy.tail 2 _ rfl).1, (Sts.boxCell hy.tail 3 _ rfl).1, (Sts.boxCell hy.tail 4 _ rfl).1, (Sts.boxCell hy.tail 5 _ rfl).1⟩), (fun _ h => h), ?_⟩
  clear h3 hy y
  apply ordq_norm
  · go_simp; rfl
  refine ordq_nil fun z hz => ?_
  clear HP
  have HP := hid hz
  clear hz
  go_wp2_with fail
  refine wp_region_ordQ (.pure 0 (.pure 1 (.pure 2 (.pure 5 (.pure 6 (.pure 9 (.pure 10 (.pure 3 (.eff 4 (.pure 7 (.eff 8 (.pure 11 (.eff 12 .nil))))))))))))) (fun y => y.cell? ⟨w.heap.size, 0, none⟩ = some (.int .i64 0) ∧ y.cell? ⟨w.heap.size, 1, none⟩ = some (.bool false) ∧ y.cell? ⟨w.heap.size, 2, none⟩ = some (.bool false) ∧ y.cell? ⟨w.heap.size, 3, none⟩ = some (.bool false) ∧ y.cell? ⟨w.heap.size, 4, none⟩ = some (.int .i64 0) ∧ y.cell? ⟨w.heap.size, 5, none⟩ = some (.int .i64 0)) (fun y => Sts w (bwP q 18 x4 :: [blkP w.heap.size (.cells #[.int .i64 0, .bool false, .bool false, .bool false, .int .i64 0, .int .i64 0] 72 (0, 0))]) y) (by kernel_rfl) (by kernel_rfl) (HP.out.drew (stabC (bwP_stable _ _ _) HLB.out)) (fun y hy => ⟨(Sts.boxCell hy.tail 0 _ rfl).1, (Sts.boxCell hy.tail 1 _ rfl).1, (Sts.boxCell hy.tail 2 _ rfl).1, (Sts.boxCell hy.tail 3 _ rfl).1, (Sts.boxCell hy.tail 4 _ rfl).1, (Sts.boxCell hy.tail 5 _ rfl).1⟩) ?_
  iterate 7
    (apply ordq_pure (ho := rfl)
     · go_simp
     · intro x hx; obtain ⟨k0, k1, k2, k3, k4, k5⟩ := hx; go_simp; rfl
     apply ordq_norm
     · go_simp; rfl)
  apply ordq_call (ho := rfl) (f := 238) (args := #[.bool false]) (v := .int .u64 0) (h2 := fun x _ => cClcwFlag x)
  · go_simp
  · intro x hx; go_simp
  apply ordq_norm
  · go_simp; rfl
  apply ordq_eff (ho := rfl)
  · go_simp
  intro y hy
  refine eff_call (f := 166) (by go_simp) (wPut HLB.out hy (0) 1 (by omega) (by decide) (by decide)) ?_
  rintro e w3 ⟨rfl, h3⟩
  obtain ⟨x5, hx5⟩ : ∃ x, x = x4 * 2 ^ 1 + 0 % 2 ^ 1 := ⟨_, rfl⟩
  replace h3 : Sts w (bwP q 19 x5 :: [blkP w.heap.size (.cells #[.int .i64 0, .bool false, .bool false, .bool false, .int .i64 0, .int .i64 0] 72 (0, 0))]) w3 := by rw [hx5]; exact h3
  have HX5 := hid hx5
  clear hx5
  refine ⟨_, rfl, (fun y => y.cell? ⟨w.heap.size, 0, none⟩ = some (.int .i64 0) ∧ y.cell? ⟨w.heap.size, 1, none⟩ = some (.bool false) ∧ y.cell? ⟨w.heap.size, 2, none⟩ = some (.bool false) ∧ y.cell? ⟨w.heap.size, 3, none⟩ = some (.bool false) ∧ y.cell? ⟨w.heap.size, 4, none⟩ = some (.int .i64 0) ∧ y.cell? ⟨w.heap.size, 5, none⟩ = some (.int .i64 0)), (fun y => Sts w (bwP q 19 x5 :: [blkP w.heap.size (.cells #[.int .i64 0, .bool false, .bool false, .bool false, .int .i64 0, .int .i64 0] 72 (0, 0))]) y), h3, (fun y hy => ⟨(Sts.boxCell hy.tail 0 _ rfl).1, (Sts.boxCell hy.tail 1 _ rfl).1, (Sts.boxCell hy.tail 2 _ rfl).1, (Sts.boxCell hy.tail 3 _ rfl).1, (Sts.boxCell hy.tail 4 _ rfl).1, (Sts.boxCell hy.tail 5 _ rfl).1⟩), (fun _ h => h), ?_⟩
  clear h3 hy y
  apply ordq_norm
  · go_simp; rfl
  apply ordq_call (ho := rfl) (f := 238) (args := #[.bool false]) (v := .int .u64 0) (h2 := fun x _ => cClcwFlag x)
  · go_simp
  · intro x hx; go_simp
  apply ordq_norm
  · go_simp; rfl
  apply ordq_eff (ho := rfl)
  · go_simp
  intro y hy
  refine eff_call (f := 166) (by go_simp) (wPut HLB.out hy (0) 1 (by omega) (by decide) (by decide)) ?_
  rintro e w3 ⟨rfl, h3⟩
  obtain ⟨x6, hx6⟩ : ∃ x, x = x5 * 2 ^ 1 + 0 % 2 ^ 1 := ⟨_, rfl⟩
  replace h3 : Sts w (bwP q 20 x6 :: [blkP w.heap.size (.cells #[.int .i64 0, .bool false, .bool false, .bool false, .int .i64 0, .int .i64 0] 72 (0, 0))]) w3 := by rw [hx6]; exact h3
  have HX6 := hid hx6
  clear hx6
  refine ⟨_, rfl, (fun y => y.cell? ⟨w.heap.size, 0, none⟩ = some (.int .i64 0) ∧ y.cell? ⟨w.heap.size, 1, none⟩ = some (.bool false) ∧ y.cell? ⟨w.heap.size, 2, none⟩ = some (.bool false) ∧ y.cell? ⟨w.heap.size, 3, none⟩ = some (.bool false) ∧ y.cell? ⟨w.heap.size, 4, none⟩ = some (.int .i64 0) ∧ y.cell? ⟨w.heap.size, 5, none⟩ = some (.int .i64 0)), (fun y => Sts w (bwP q 20 x6 :: [blkP w.heap.size (.cells #[.int .i64 0, .bool false, .bool false, .bool false, .int .i64 0, .int .i64 0] 72 (0, 0))]) y), h3, (fun y hy => ⟨(Sts.boxCell hy.tail 0 _ rfl).1, (Sts.boxCell hy.tail 1 _ rfl).1, (Sts.boxCell hy.tail 2 _ rfl).1, (Sts.boxCell hy.tail 3 _ rfl).1, (Sts.boxCell hy.tail 4 _ rfl).1, (Sts.boxCell hy.tail 5 _ rfl).1⟩), (fun _ h => h), ?_⟩
  clear h3 hy y
  apply ordq_norm
  · go_simp; rfl
  apply ordq_call (ho := rfl) (f := 238) (args := #[.bool false]) (v := .int .u64 0) (h2 := fun x _ => cClcwFlag x)
  · go_simp
  · intro x hx; go_simp
  apply ordq_norm
  · go_simp; rfl
  apply ordq_eff (ho := rfl)
  · go_simp
  intro y hy
  refine eff_call (f := 166) (by go_simp) (wPut HLB.out hy (0) 1 (by omega) (by decide) (by decide)) ?_
  rintro e w3 ⟨rfl, h3⟩
  obtain ⟨x7, hx7⟩ : ∃ x, x = x6 * 2 ^ 1 + 0 % 2 ^ 1 := ⟨_, rfl⟩
  replace h3 : Sts w (bwP q 21 x7 :: [blkP w.heap.size (.cells #[.int .i64 0, .bool false, .bool false, .bool false, .int .i64 0, .int .i64 0] 72 (0, 0))]) w3 := by rw [hx7]; exact h3
  have HX7 := hid hx7
  clear hx7
  refine ⟨_, rfl, (fun y => y.cell? ⟨w.heap.size, 0, none⟩ = some (.int .i64 0) ∧ y.cell? ⟨w.heap.size, 1, none⟩ = some (.bool false) ∧ y.cell? ⟨w.heap.size, 2, none⟩ = some (.bool false) ∧ y.cell? ⟨w.heap.size, 3, none⟩ = some (.bool false) ∧ y.cell? ⟨w.heap.size, 4, none⟩ = some (.int .i64 0) ∧ y.cell? ⟨w.heap.size, 5, none⟩ = some (.int .i64 0)), (fun y => Sts w (bwP q 21 x7 :: [blkP w.heap.size (.cells #[.int .i64 0, .bool false, .bool false, .bool false, .int .i64 0, .int .i64 0] 72 (0, 0))]) y), h3, (fun y hy => ⟨(Sts.boxCell hy.tail 0 _ rfl).1, (Sts.boxCell hy.tail 1 _ rfl).1, (Sts.boxCell hy.tail 2 _ rfl).1, (Sts.boxCell hy.tail 3 _ rfl).1, (Sts.boxCell hy.tail 4 _ rfl).1, (Sts.boxCell hy.tail 5 _ rfl).1⟩), (fun _ h => h), ?_⟩
  clear h3 hy y
  apply ordq_norm
  · go_simp; rfl
  refine ordq_nil fun z hz => ?_
  clear HP
  have HP := hid hz
  clear hz
  go_wp2_with fail
  refine wp_region_ordQ (.pure 0 (.pure 1 (.pure 2 (.pure 3 (.pure 6 (.pure 7 (.pure 8 (.eff 4 (.eff 5 (.eff 9 .nil)))))))))) (fun y => y.cell? ⟨w.heap.size, 0, none⟩ = some (.int .i64 0) ∧ y.cell? ⟨w.heap.size, 1, none⟩ = some (.bool false) ∧ y.cell? ⟨w.heap.size, 2, none⟩ = some (.bool false) ∧ y.cell? ⟨w.heap.size, 3, none⟩ = some (.bool false) ∧ y.cell? ⟨w.heap.size, 4, none⟩ = some (.int .i64 0) ∧ y.cell? ⟨w.heap.size, 5, none⟩ = some (.int .i64 0)) (fun y => Sts w (bwP q 21 x7 :: [blkP w.heap.size (.cells #[.int .i64 0, .bool false, .bool false, .bool false, .int .i64 0, .int .i64 0] 72 (0, 0))]) y) (by kernel_rfl) (by kernel_rfl) (HP.out.drew (stabC (bwP_stable _ _ _) HLB.out)) (fun y hy => ⟨(Sts.boxCell hy.tail 0 _ rfl).1, (Sts.boxCell hy.tail 1 _ rfl).1, (Sts.boxCell hy.tail 2 _ rfl).1, (Sts.boxCell hy.tail 3 _ rfl).1, (Sts.boxCell hy.tail 4 _ rfl).1, (Sts.boxCell hy.tail 5 _ rfl).1⟩) ?_
  iterate 7
    (apply ordq_pure (ho := rfl)
     · go_simp
     · intro x hx; obtain ⟨k0, k1, k2, k3, k4, k5⟩ := hx; go_simp; rfl
     apply ordq_norm
     · go_simp; rfl)
  apply ordq_eff (ho := rfl)
  · go_simp
  intro y hy
  refine eff_call (f := 166) (by go_simp) (wPut HLB.out hy (0) 2 (by omega) (by decide) (by decide)) ?_
  rintro e w3 ⟨rfl, h3⟩
  obtain ⟨x8, hx8⟩ : ∃ x, x = x7 * 2 ^ 2 + 0 % 2 ^ 2 := ⟨_, rfl⟩
  replace h3 : Sts w (bwP q 23 x8 :: [blkP w.heap.size (.cells #[.int .i64 0, .bool false, .bool false, .bool false, .int .i64 0, .int .i64 0] 72 (0, 0))]) w3 := by rw [hx8]; exact h3
  have HX8 := hid hx8
  clear hx8
  refine ⟨_, rfl, (fun y => y.cell? ⟨w.heap.size, 0, none⟩ = some (.int .i64 0) ∧ y.cell? ⟨w.heap.size, 1, none⟩ = some (.bool false) ∧ y.cell? ⟨w.heap.size, 2, none⟩ = some (.bool false) ∧ y.cell? ⟨w.heap.size, 3, none⟩ = some (.bool false) ∧ y.cell? ⟨w.heap.size, 4, none⟩ = some (.int .i64 0) ∧ y.cell? ⟨w.heap.size, 5, none⟩ = some (.int .i64 0)), (fun y => Sts w (bwP q 23 x8 :: [blkP w.heap.size (.cells #[.int .i64 0, .bool false, .bool false, .bool false, .int .i64 0, .int .i64 0] 72 (0, 0))]) y), h3, (fun y hy => ⟨(Sts.boxCell hy.tail 0 _ rfl).1, (Sts.boxCell hy.tail 1 _ rfl).1, (Sts.boxCell hy.tail 2 _ rfl).1, (Sts.boxCell hy.tail 3 _ rfl).1, (Sts.boxCell hy.tail 4 _ rfl).1, (Sts.boxCell hy.tail 5 _ rfl).1⟩), (fun _ h => h), ?_⟩
  clear h3 hy y
  apply ordq_norm
  · go_simp; rfl
  apply ordq_eff (ho := rfl)
  · go_simp
  intro y hy
  refine eff_call (f := 166) (by go_simp) (wPut HLB.out hy (0) 1 (by omega) (by decide) (by decide)) ?_
  rintro e w3 ⟨rfl, h3⟩
  obtain ⟨x9, hx9⟩ : ∃ x, x = x8 * 2 ^ 1 + 0 % 2 ^ 1 := ⟨_, rfl⟩
  replace h3 : Sts w (bwP q 24 x9 :: [blkP w.heap.size (.cells #[.int .i64 0, .bool false, .bool false, .bool false, .int .i64 0, .int .i64 0] 72 (0, 0))]) w3 := by rw [hx9]; exact h3
  have HX9 := hid hx9
  clear hx9
  refine ⟨_, rfl, (fun y => y.cell? ⟨w.heap.size, 0, none⟩ = some (.int .i64 0) ∧ y.cell? ⟨w.heap.size, 1, none⟩ = some (.bool false) ∧ y.cell? ⟨w.heap.size, 2, none⟩ = some (.bool false) ∧ y.cell? ⟨w.heap.size, 3, none⟩ = some (.bool false) ∧ y.cell? ⟨w.heap.size, 4, none⟩ = some (.int .i64 0) ∧ y.cell? ⟨w.heap.size, 5, none⟩ = some (.int .i64 0)), (fun y => Sts w (bwP q 24 x9 :: [blkP w.heap.size (.cells #[.int .i64 0, .bool false, .bool false, .bool false, .int .i64 0, .int .i64 0] 72 (0, 0))]) y), h3, (fun y hy => ⟨(Sts.boxCell hy.tail 0 _ rfl).1, (Sts.boxCell hy.tail 1 _ rfl).1, (Sts.boxCell hy.tail 2 _ rfl).1, (Sts.boxCell hy.tail 3 _ rfl).1, (Sts.boxCell hy.tail 4 _ rfl).1, (Sts.boxCell hy.tail 5 _ rfl).1⟩), (fun _ h => h), ?_⟩
  clear h3 hy y
  apply ordq_norm
  · go_simp; rfl
  apply ordq_eff (ho := rfl)
  · go_simp
  intro y hy
  refine eff_call (f := 166) (by go_simp) (wPut HLB.out hy (0) 8 (by omega) (by decide) (by decide)) ?_
  rintro e w3 ⟨rfl, h3⟩
  obtain ⟨x10, hx10⟩ : ∃ x, x = x9 * 2 ^ 8 + 0 % 2 ^ 8 := ⟨_, rfl⟩
  replace h3 : Sts w (bwP q 32 x10 :: [blkP w.heap.size (.cells #[.int .i64 0, .bool false, .bool false, .bool false, .int .i64 0, .int .i64 0] 72 (0, 0))]) w3 := by rw [hx10]; exact h3
  have HX10 := hid hx10
  clear hx10
  refine ⟨_, rfl, (fun y => y.cell? ⟨w.heap.size, 0, none⟩ = some (.int .i64 0) ∧ y.cell? ⟨w.heap.size, 1, none⟩ = some (.bool false) ∧ y.cell? ⟨w.heap.size, 2, none⟩ = some (.bool false) ∧ y.cell? ⟨w.heap.size, 3, none⟩ = some (.bool false) ∧ y.cell? ⟨w.heap.size, 4, none⟩ = some (.int .i64 0) ∧ y.cell? ⟨w.heap.size, 5, none⟩ = some (.int .i64 0)), (fun y => Sts w (bwP q 32 x10 :: [blkP w.heap.size (.cells #[.int .i64 0, .bool false, .bool false, .bool false, .int .i64 0, .int .i64 0] 72 (0, 0))]) y), h3, (fun y hy => ⟨(Sts.boxCell hy.tail 0 _ rfl).1, (Sts.boxCell hy.tail 1 _ rfl).1, (Sts.boxCell hy.tail 2 _ rfl).1, (Sts.boxCell hy.tail 3 _ rfl).1, (Sts.boxCell hy.tail 4 _ rfl).1, (Sts.boxCell hy.tail 5 _ rfl).1⟩), (fun _ h => h), ?_⟩
  clear h3 hy y
  apply ordq_norm
  · go_simp; rfl
  refine ordq_nil fun z hz => ?_
  clear HP
  have HP := hid hz
  clear hz
  go_wp2_with fail
  refine (wBitBytes HLB.out HP.out (by decide)).mono ?_
  rintro e w5 ⟨r, rfl, h5⟩
  have h6 := (h5.swap.tail.swap.tail)
  have HN := hid (New.of_sts h6 (u8s_len _))
  clear h5 h6
  go_wp2_with fail
  go_ret2
  refine ⟨r, rfl, ?_⟩
  have hE : x10 = 16777216 := by rw [HX10.out, HX9.out, HX8.out, HX7.out, HX6.out, HX5.out, HX4.out, HX3.out, HX2.out, HX1.out]
  have hP : Bitw.pk 32 16777216 = [1, 0, 0, 0] := by decide
  have := HN.out
  rw [hE, hP] at this
  exact this
end Go.Proofs.YtnklmadmenkdoaaGreat
namespace Go.Proofs.YtnklmadmenkdoaaGreat
open Go.RowKit Go.Shelf Go.Proofs.Num
set_option maxRecDepth 100000 in
theorem ldClc6 {w : World} {b : Nat} (h0 : w.cell? ⟨b, 0, none⟩ = some (.int .i64 0)) (h1 : w.cell? ⟨b, 1, none⟩ = some (.bool false)) (h2 : w.cell? ⟨b, 2, none⟩ = some (.bool false)) (h3 : w.cell? ⟨b, 3, none⟩ = some (.bool false)) (h4 : w.cell? ⟨b, 4, none⟩ = some (.int .i64 0)) (h5 : w.cell? ⟨b, 5, none⟩ = some (.int .i64 0)) :
    (loadVar 72 ⟨b, 0, none⟩).run Tryz.prog w = .ok (.agg clcZ) w := by
  unfold clcZ
  go_simp
set_option maxRecDepth 100000 in
theorem szClc : ∀ w, (Go.sizeOf 72).run Tryz.prog w = .ok 6 w := fun w => by first | rfl | simp [go_sem] | kernel_rfl
set_option maxRecDepth 100000 in
set_option maxHeartbeats 4000000 in
theorem cClcwDec (w : World) (a : Addr) (c : Nat) (hR : RdB w (.slice (some a) 4 c) [1, 0, 0, 0]) :
    Calls Tryz.prog 128 #[.slice (some a) 4 c] w fun e w' => e = .returned (.tuple #[.agg clcZ, .int .i64 0]) ∧ Below w.heap.size w w' := by
  have HS : Hid (Sts w (blkP w.heap.size (.cells clcZ 72 (0, 0)) :: []) (w.alloc (.cells clcZ 72))) := hid (Sts.alloc stab0 (Sts.nil w) _)
  have HLB : Hid (∀ B ∈ [blkP w.heap.size (.cells clcZ 72 (0, 0))], Stable B) := hid (stabC (blkP_stable _ _) stab0)
  have HR := hid hR
  clear hR
  go_enter Tryz.func128, Tryz.ntmps128
  go_wp2_with fail
  refine (cBrNew HLB.out HS.out (.slice (some a) 4 c) [1, 0, 0, 0] (HR.out.below HS.out.below) (NilOk.some _ _ _) (by decide)).mono ?_
  rintro e w1 ⟨p, r, rfl, h1⟩
  have H1 := hid h1
  clear h1 HS
  go_wp2_with fail
  refine (cBrSkip HLB.out p 0 8 r [1, 0, 0, 0] H1.out (by decide) (by decide)).mono ?_
  rintro e w2 ⟨rfl, h1⟩
  have H2 := hid h1
  clear h1 H1
  go_wp2_with fail
  refine (cBrGet HLB.out p (0 + 8) 6 r [1, 0, 0, 0] H2.out (by decide) (by decide) (by decide) (by decide)).mono ?_
  rintro e w3 ⟨rfl, h1⟩
  rw [show Bitr.num [1, 0, 0, 0] (0 + 8) 6 = 0 by decide]
  have H3 := hid h1
  clear h1 H2
  -- FROM HERE printed by mkscbl.py
  have HLC : Hid (∀ B ∈ [blkP w3.heap.size (.cells clcZ 72 (0, 0)), blkP w.heap.size (.cells clcZ 72 (0, 0))], Stable B) := hid (stabC (blkP_stable _ _) (stabC (blkP_stable _ _) stab0))
  have h4 := Sts.alloc (brO_stable p _ r _ HLB.out) H3.out (.cells clcZ 72)
  obtain ⟨b5, hb5⟩ : ∃ b, b = w3.heap.size := ⟨_, rfl⟩
  have H4 : Hid (Sts w (brO p (0 + 8 + 6) r [1, 0, 0, 0] ++ [blkP b5 (.cells clcZ 72 (0, 0)), blkP w.heap.size (.cells clcZ 72 (0, 0))]) (w3.alloc (.cells clcZ 72))) := hid (hb5 ▸ h4.third'.perm (List.Perm.refl _))
  rw [← hb5] at HLC
  clear h4 H3
  go_wp2_with fail
  rw [← hb5]
  clear hb5
  refine (cBrSkip HLC.out p (0 + 8 + 6) 4 r [1, 0, 0, 0] H4.out (by decide) (by decide)).mono ?_
  rintro e y5 ⟨rfl, h1⟩
  have H5 := hid h1
  clear h1 H4
  go_wp2_with fail
  refine (cBrGet HLC.out p (0 + 8 + 6 + 4) 1 r [1, 0, 0, 0] H5.out (by decide) (by decide) (by decide) (by decide)).mono ?_
  rintro e y6 ⟨rfl, h1⟩
  rw [show Bitr.num [1, 0, 0, 0] (0 + 8 + 6 + 4) 1 = 0 by decide]
  have c6 := (Sts.boxCell h1.tail.tail 1 _ rfl).1
  have f6 := (Sts.boxCell h1.tail.tail 1 _ rfl).2
  have H6 : Hid (Sts w (brO p (0 + 8 + 6 + 4 + 1) r [1, 0, 0, 0] ++ [blkP b5 (.cells clcZ 72 (0, 0)), blkP w.heap.size (.cells clcZ 72 (0, 0))]) (y6.setCell ⟨b5, 1, none⟩ (.bool false))) := hid (Sts.store (stabC (blkP_stable _ _) (stabC (rowP_stable _ _ _ _ _) (stabC (blkP_stable _ _) stab0))) h1.third (j := 1) (.bool false)).third'
  clear h1 H5
  go_wp2_with fail
  clear c6 f6
  refine (cBrGet HLC.out p (0 + 8 + 6 + 4 + 1) 1 r [1, 0, 0, 0] H6.out (by decide) (by decide) (by decide) (by decide)).mono ?_
  rintro e y7 ⟨rfl, h1⟩
  rw [show Bitr.num [1, 0, 0, 0] (0 + 8 + 6 + 4 + 1) 1 = 0 by decide]
  have c7 := (Sts.boxCell h1.tail.tail 2 _ rfl).1
  have f7 := (Sts.boxCell h1.tail.tail 2 _ rfl).2
  have H7 : Hid (Sts w (brO p (0 + 8 + 6 + 4 + 1 + 1) r [1, 0, 0, 0] ++ [blkP b5 (.cells clcZ 72 (0, 0)), blkP w.heap.size (.cells clcZ 72 (0, 0))]) (y7.setCell ⟨b5, 2, none⟩ (.bool false))) := hid (Sts.store (stabC (blkP_stable _ _) (stabC (rowP_stable _ _ _ _ _) (stabC (blkP_stable _ _) stab0))) h1.third (j := 2) (.bool false)).third'
  clear h1 H6
  go_wp2_with fail
  clear c7 f7
  refine (cBrGet HLC.out p (0 + 8 + 6 + 4 + 1 + 1) 1 r [1, 0, 0, 0] H7.out (by decide) (by decide) (by decide) (by decide)).mono ?_
  rintro e y8 ⟨rfl, h1⟩
  rw [show Bitr.num [1, 0, 0, 0] (0 + 8 + 6 + 4 + 1 + 1) 1 = 0 by decide]
  have c8 := (Sts.boxCell h1.tail.tail 3 _ rfl).1
  have f8 := (Sts.boxCell h1.tail.tail 3 _ rfl).2
  have H8 : Hid (Sts w (brO p (0 + 8 + 6 + 4 + 1 + 1 + 1) r [1, 0, 0, 0] ++ [blkP b5 (.cells clcZ 72 (0, 0)), blkP w.heap.size (.cells clcZ 72 (0, 0))]) (y8.setCell ⟨b5, 3, none⟩ (.bool false))) := hid (Sts.store (stabC (blkP_stable _ _) (stabC (rowP_stable _ _ _ _ _) (stabC (blkP_stable _ _) stab0))) h1.third (j := 3) (.bool false)).third'
  clear h1 H7
  go_wp2_with fail
  clear c8 f8
  refine (cBrGet HLC.out p (0 + 8 + 6 + 4 + 1 + 1 + 1) 2 r [1, 0, 0, 0] H8.out (by decide) (by decide) (by decide) (by decide)).mono ?_
  rintro e y9 ⟨rfl, h1⟩
  rw [show Bitr.num [1, 0, 0, 0] (0 + 8 + 6 + 4 + 1 + 1 + 1) 2 = 0 by decide]
  have c9 := (Sts.boxCell h1.tail.tail 4 _ rfl).1
  have f9 := (Sts.boxCell h1.tail.tail 4 _ rfl).2
  have H9 : Hid (Sts w (brO p (0 + 8 + 6 + 4 + 1 + 1 + 1 + 2) r [1, 0, 0, 0] ++ [blkP b5 (.cells clcZ 72 (0, 0)), blkP w.heap.size (.cells clcZ 72 (0, 0))]) (y9.setCell ⟨b5, 4, none⟩ (.int .i64 0))) := hid (Sts.store (stabC (blkP_stable _ _) (stabC (rowP_stable _ _ _ _ _) (stabC (blkP_stable _ _) stab0))) h1.third (j := 4) (.int .i64 0)).third'
  clear h1 H8
  go_wp2_with fail
  clear c9 f9
  refine (cBrSkip HLC.out p (0 + 8 + 6 + 4 + 1 + 1 + 1 + 2) 1 r [1, 0, 0, 0] H9.out (by decide) (by decide)).mono ?_
  rintro e y10 ⟨rfl, h1⟩
  have H10 := hid h1
  clear h1 H9
  go_wp2_with fail
  refine (cBrGet HLC.out p (0 + 8 + 6 + 4 + 1 + 1 + 1 + 2 + 1) 8 r [1, 0, 0, 0] H10.out (by decide) (by decide) (by decide) (by decide)).mono ?_
  rintro e y11 ⟨rfl, h1⟩
  rw [show Bitr.num [1, 0, 0, 0] (0 + 8 + 6 + 4 + 1 + 1 + 1 + 2 + 1) 8 = 0 by decide]
  have c11 := (Sts.boxCell h1.tail.tail 5 _ rfl).1
  have f11 := (Sts.boxCell h1.tail.tail 5 _ rfl).2
  have k0 := (Sts.boxCell h1.tail.tail 0 _ rfl).1
  have k1 := (Sts.boxCell h1.tail.tail 1 _ rfl).1
  have k2 := (Sts.boxCell h1.tail.tail 2 _ rfl).1
  have k3 := (Sts.boxCell h1.tail.tail 3 _ rfl).1
  have k4 := (Sts.boxCell h1.tail.tail 4 _ rfl).1
  have k5 := (Sts.boxCell h1.tail.tail 5 _ rfl).1
  have H11 : Hid (Sts w (brO p (0 + 8 + 6 + 4 + 1 + 1 + 1 + 2 + 1 + 8) r [1, 0, 0, 0] ++ [blkP b5 (.cells clcZ 72 (0, 0)), blkP w.heap.size (.cells clcZ 72 (0, 0))]) (y11.setCell ⟨b5, 5, none⟩ (.int .i64 0))) := hid (Sts.store (stabC (blkP_stable _ _) (stabC (rowP_stable _ _ _ _ _) (stabC (blkP_stable _ _) stab0))) h1.third (j := 5) (.int .i64 0)).third'
  clear h1 H10
  go_wp2_with fail
  clear c11 f11 k0 k1 k2 k3 k4 k5
  refine (cClcwEnc _).mono ?_
  rintro e z1 ⟨ro, rfl, h1⟩
  have HE := hid ((Sts.new (brO_stable p _ r _ HLC.out) H11.out h1))
  have KE := hid (cBEqual z1 ro (.slice (some a) 4 c) [1, 0, 0, 0] (h1.rdB (by decide)) (HR.out.below HE.out.below))
  have k0 := (Sts.boxCell HE.out.tail.tail.tail 0 _ rfl).1
  have k1 := (Sts.boxCell HE.out.tail.tail.tail 1 _ rfl).1
  have k2 := (Sts.boxCell HE.out.tail.tail.tail 2 _ rfl).1
  have k3 := (Sts.boxCell HE.out.tail.tail.tail 3 _ rfl).1
  have k4 := (Sts.boxCell HE.out.tail.tail.tail 4 _ rfl).1
  have k5 := (Sts.boxCell HE.out.tail.tail.tail 5 _ rfl).1
  clear h1 H11
  have HF := hid (HE.out.perm (List.perm_append_comm (l₁ := [_, _, _, _]) (l₂ := [_])))
  go_wp2_with (first | (go_at_call 101; refine KE.out.mono ?_; rintro e z2 ⟨rfl, rfl⟩) | (refine wpList_aggS HF.out (stabC (rowP_stable _ _ _ _ _) (stabC (blkP_stable _ _) (stabC (rowP_stable _ _ _ _ _) (stabC (blkP_stable _ _) stab0)))) rfl (.tmp 2) (.tmp 64) 72 rfl clcZ rfl rfl szClc rfl rfl ?_; intro w5 h5; have H5 := hid h5; clear h5))
  refine post_cell2S H5.out Tryz.results128 rfl rfl (ldClc6 (Sts.boxCell H5.out 0 _ rfl).1 (Sts.boxCell H5.out 1 _ rfl).1 (Sts.boxCell H5.out 2 _ rfl).1 (Sts.boxCell H5.out 3 _ rfl).1 (Sts.boxCell H5.out 4 _ rfl).1 (Sts.boxCell H5.out 5 _ rfl).1) (.int .i64 0) rfl ⟨rfl, H5.out.below⟩
end Go.Proofs.YtnklmadmenkdoaaGreat
namespace Go.Proofs.YtnklmadmenkdoaaGreat
open Go.RowKit Go.Shelf Go.Proofs.Num
set_option maxRecDepth 100000 in
theorem cTmWithin (w : World) (n m : Int) (h0 : 0 ≤ n) (h1 : n ≤ m) : Calls Tryz.prog 236 #[.int .i64 n, .int .i64 m] w fun e w' => e = .returned (.bool true) ∧ w = w' := by
  have d0 : decide (0 ≤ n) = true := decide_eq_true h0
  have d1 : decide (n ≤ m) = true := decide_eq_true h1
  go_enter Tryz.func236, Tryz.ntmps236
  go_wp2
  go_ret
  exact ⟨by simp, rfl⟩
/-- A frame of craft 5 on channel 0, its i-th, with data that begin with a packet. -/
def tmV (i : Nat) (v : Value) : Array Value := #[.int .i64 5, .int .i64 0, .int .i64 (i : Int), .int .i64 (i : Int), .int .i64 0, v, .int .i64 0, .bool false, .bool false, .bool false, .int .i64 0, .int .i64 0]
set_option maxRecDepth 100000 in
set_option maxHeartbeats 1000000 in
theorem cTmValid (w : World) (i : Nat) (a : Option Addr) (c : Nat) (hi : i < 256) : Calls Tryz.prog 164 #[.agg (tmV i (.slice a 244 c))] w fun e w' => e = .returned (.bool true) ∧ Below w.heap.size w w' := by
  have HS : Hid (Sts w (blkP w.heap.size (.cells (tmV i (.slice a 244 c)) 74 (0, 0)) :: []) (w.alloc (.cells (tmV i (.slice a 244 c)) 74))) := hid (Sts.alloc stab0 (Sts.nil w) _)
  have K1 := hid (fun y => cTmWithin y 5 1023 (by decide) (by decide))
  have K2 := hid (fun y => cTmWithin y 0 7 (by decide) (by decide))
  have K3 := hid (fun y => cTmWithin y (i : Int) 255 (by omega) (by omega))
  have K4 := hid (fun y => cTmWithin y 0 2047 (by decide) (by decide))
  have K5 := hid (cClcwValid (w.alloc (.cells (tmV i (.slice a 244 c)) 74)))
  clear hi
  unfold tmV clcZ at *
  go_enter Tryz.func164, Tryz.ntmps164
  go_wp2_with fail
  refine (K1.out _).mono ?_
  rintro e w1 ⟨rfl, rfl⟩
  go_wp2_with fail
  refine (K2.out _).mono ?_
  rintro e w1 ⟨rfl, rfl⟩
  go_wp2_with fail
  refine (K3.out _).mono ?_
  rintro e w1 ⟨rfl, rfl⟩
  go_wp2_with fail
  refine (K3.out _).mono ?_
  rintro e w1 ⟨rfl, rfl⟩
  go_wp2_with fail
  refine (K4.out _).mono ?_
  rintro e w1 ⟨rfl, rfl⟩
  go_wp2_with fail
  refine K5.out.mono ?_
  rintro e w1 ⟨rfl, h1⟩
  have H1 := hid (HS.out.below.trans (h1.mono HS.out.below.size))
  clear h1
  go_wp2_with fail
  go_ret
  exact ⟨rfl, H1.out⟩
end Go.Proofs.YtnklmadmenkdoaaGreat
