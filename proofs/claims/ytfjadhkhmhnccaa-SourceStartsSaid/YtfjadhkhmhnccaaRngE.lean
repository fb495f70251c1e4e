/- ranges.Add. -/
import Derived.Test.YtfjadhkhmhnccaaRngD
set_option linter.unusedVariables false
set_option linter.unusedSimpArgs false
namespace Go.Proofs.Ytfjadhkhmhnccaa
open Go.RowKit Go.Proofs.Num
/-- append of one range to a row, in a drawn region. -/
theorem effR_append {L : Prop} {W0 y : World} {o : Oper} {a : Act} {K : Act → WP → WP → Prop} {v : Value} {b : Nat} {l : List Rng.R} {f t : Int} {M : List HProp}
    (hS : Sts W0 (rowP 81 2 v l.length (Fil.rcells l) :: blkP b (.cells #[.int .i64 f, .int .i64 t] 81 (0, 0)) :: M) y) (hM : ∀ A ∈ blkP b (.cells #[.int .i64 f, .int .i64 t] 81 (0, 0)) :: M, Stable A)
    (s x : Operand) (ho : o.op = .call { callee := .builtin .append, args := #[s, x], argTypes := #[36, 36] })
    (hs : a.eval s = v) (hx : a.eval x = .slice (some ⟨b, 0, none⟩) 1 1) (hlen : l.length < 1000000) (D : WP)
    (hD : ∀ v' z, Sts W0 (rowP 81 2 v' (l ++ [(f, t)]).length (Fil.rcells (l ++ [(f, t)])) :: blkP b (.cells #[.int .i64 f, .int .i64 t] 81 (0, 0)) :: M) z → D z)
    (hk : ∀ v', K (a.put o.dst v') D (fun z => Sts W0 (rowP 81 2 v' (l ++ [(f, t)]).length (Fil.rcells (l ++ [(f, t)])) :: blkP b (.cells #[.int .i64 f, .int .i64 t] 81 (0, 0)) :: M) z)) :
    effUpon Try.prog L o.dst a D K ((execOp a.eval o).run Try.prog y) := by
  obtain ⟨i0, hi, hz0, hz1, hz2⟩ := info_parts infoR
  have hblk : y.heap[b]? = some (.cells #[.int .i64 f, .int .i64 t] 81 (0, 0)) := by obtain ⟨F, hF⟩ := hS.tail.head; exact hF.1
  have hnews : ∀ j u, [Value.int .i64 f, Value.int .i64 t][j]? = some u → y.cell? ((⟨b, 0, none⟩ : Addr).add j) = some u := by
    intro j u hj
    rw [plain_add, Nat.zero_add]
    exact cell_blk hblk (by simpa using hj)
  obtain ⟨v', w', hrun, hown', hgr, _, hbl⟩ := run_append_own_at (P := Try.prog) y 0 36 o.type 81 i0 (.agg #[.int .i64 0, .int .i64 0]) 2 16 Try.underlying36 hi hz0 hz1 hz2 rfl (by decide) v l.length (Fil.rcells l) (Sts.rowOwnK hS) ⟨b, 0, none⟩ 1 1 [.int .i64 f, .int .i64 t] rfl hnews (by intro u hu; simp at hu; rcases hu with rfl | rfl <;> rfl) (by unfold maxLen; omega) (by omega) (Nat.zero_le _)
  have h := Sts.grownK hM hS hgr hown' (by
    intro q' hq
    rcases hbl with h | h
    · exact Or.inl (h ▸ hq)
    · rw [h] at hq; injection hq with hq; exact Or.inr (by omega))
  have e1 : l.length + 1 = (l ++ [(f, t)]).length := by simp
  have e2 : Fil.rcells l ++ [.int .i64 f, .int .i64 t] = Fil.rcells (l ++ [(f, t)]) := by rw [rcells_app]; rfl
  rw [e1, e2] at h
  have hr : (execOp a.eval o).run Try.prog y = .ok (.value v') w' := by
    simp [execOp, ho, resolve, invoke, builtin, hs, hx, hrun, Result.andThen]
  exact eff_value D _ hr h (hD v') (fun _ h => h) (hk v')
set_option maxRecDepth 100000 in
set_option maxHeartbeats 2000000 in
theorem cAddR (w : World) (v : Value) (l : List Rng.R) (f t : Int) (h : RdR w v l) (hn : l.length < 900000) :
    Calls Try.prog 108 #[v, .agg #[.int .i64 f, .int .i64 t]] w fun e w' => ∃ r, e = .returned r ∧ NewR w w' r (Rng.ofV (l ++ [(f, t)])) := by
  have HR := hid h
  have hn2 : (l ++ [(f, t)]).length < 1000000 := by simp; omega
  replace hn : l.length < 1000000 := by omega
  have HB := hid ((Sts.nil w).alloc stab0 (.cells #[.int .i64 f, .int .i64 t] 81))
  clear h
  go_enter Try.func108, Try.ntmps108
  go_wp2_with fail
  refine wp_region_ord (.pure 0 (.pure 2 (.eff2 1 3 (.eff 3 (.eff 4 (.eff 5 (.pure 6 .nil)))) (.eff 1 (.eff 4 (.eff 5 (.pure 6 .nil))))))) (fun y => y.cell? ⟨w.heap.size, 0, none⟩ = some (.int .i64 f) ∧ y.cell? ⟨w.heap.size, 1, none⟩ = some (.int .i64 t)) (fun y => Sts w [blkP w.heap.size (.cells #[.int .i64 f, .int .i64 t] 81 (0, 0))] y) (by kernel_rfl) (by kernel_rfl) (HB.out.drew (stabC (blkP_stable _ _) stab0)) (fun z hz => ⟨(Sts.boxCell hz 0 _ rfl).1, (Sts.boxCell hz 1 _ rfl).1⟩) ?_
  apply ord_pure (ho := rfl)
  · go_simp
  · intro x hx; obtain ⟨q0, q1⟩ := hx; go_simp; rfl
  apply ord_norm
  · go_simp; rfl
  apply ord_pure (ho := rfl)
  · go_simp
  · intro x hx; obtain ⟨q0, q1⟩ := hx; go_simp; rfl
  apply ord_norm
  · go_simp; rfl
  refine ord_eff2 ?_ ?_
  · apply ord_eff (ho := rfl)
    · go_simp
    intro y hy
    refine eff_call (f := 79) (by go_simp) (cCloneR y v l (HR.out.below hy.below) hn) ?_
    rintro e w2 ⟨r, rfl, hN⟩
    have hs2 := Sts.newR (stabC (blkP_stable _ _) stab0) hy hN
    refine ⟨_, rfl, (fun y => y.cell? ⟨w.heap.size, 0, none⟩ = some (.int .i64 f) ∧ y.cell? ⟨w.heap.size, 1, none⟩ = some (.int .i64 t)), (fun y => Sts w [rowP 81 2 r l.length (Fil.rcells l), blkP w.heap.size (.cells #[.int .i64 f, .int .i64 t] 81 (0, 0))] y), hs2, (fun z hz => ⟨(Sts.boxCell hz.tail 0 _ rfl).1, (Sts.boxCell hz.tail 1 _ rfl).1⟩), (fun _ h => h), ?_⟩
    clear hs2 hN hy y
    apply ord_norm
    · go_simp; rfl
    apply ord_eff (ho := rfl)
    · go_simp
    intro y hy
    obtain ⟨q0, q1⟩ : y.cell? ⟨w.heap.size, 0, none⟩ = some (.int .i64 f) ∧ y.cell? ⟨w.heap.size, 1, none⟩ = some (.int .i64 t) := ⟨(Sts.boxCell hy.tail 0 _ rfl).1, (Sts.boxCell hy.tail 1 _ rfl).1⟩
    have hs2 := (hy.alloc (stabC (rowP_stable _ _ _ _ _) (stabC (blkP_stable _ _) stab0)) (.cells #[.int .i64 f, .int .i64 t] 81)).swap
    generalize hb : y.heap.size = b at hs2
    refine eff_value (fun y => y.cell? ⟨w.heap.size, 0, none⟩ = some (.int .i64 f) ∧ y.cell? ⟨w.heap.size, 1, none⟩ = some (.int .i64 t)) (fun y => Sts w [rowP 81 2 r l.length (Fil.rcells l), blkP b (.cells #[.int .i64 f, .int .i64 t] 81 (0, 0)), blkP w.heap.size (.cells #[.int .i64 f, .int .i64 t] 81 (0, 0))] y) (w := y.alloc (.cells #[.int .i64 f, .int .i64 t] 81)) (v := .slice (some ⟨b, 0, none⟩) 1 1) ?_ hs2 (fun z hz => ⟨(Sts.boxCell hz.tail.tail 0 _ rfl).1, (Sts.boxCell hz.tail.tail 1 _ rfl).1⟩) (fun _ h => h) ?_
    · clear hs2 hy; subst hb; go_simp
    clear hs2 hy q0 q1 hb y
    apply ord_norm
    · go_simp; rfl
    apply ord_eff (ho := rfl)
    · go_simp
    intro y hy
    refine effR_append hy (stabC (blkP_stable _ _) (stabC (blkP_stable _ _) stab0)) (.tmp 6) (.tmp 8) rfl rfl rfl hn (fun y => y.cell? ⟨w.heap.size, 0, none⟩ = some (.int .i64 f) ∧ y.cell? ⟨w.heap.size, 1, none⟩ = some (.int .i64 t)) (fun v1 z hz => ⟨(Sts.boxCell hz.tail.tail 0 _ rfl).1, (Sts.boxCell hz.tail.tail 1 _ rfl).1⟩) ?_
    intro v1
    clear hy y
    apply ord_norm
    · go_simp; rfl
    apply ord_eff (ho := rfl)
    · go_simp
    intro y hy
    refine eff_call (f := 118) (by go_simp) (cNormal y v1 (l ++ [(f, t)]) (RdR.of_own (Sts.rowOwnK hy) rfl) hn2) ?_
    rintro e w2 ⟨r2, rfl, hN⟩
    have hs2 := Sts.newR (stabC (rowP_stable _ _ _ _ _) (stabC (blkP_stable _ _) (stabC (blkP_stable _ _) stab0))) hy hN
    refine ⟨_, rfl, (fun y => y.cell? ⟨w.heap.size, 0, none⟩ = some (.int .i64 f) ∧ y.cell? ⟨w.heap.size, 1, none⟩ = some (.int .i64 t)), (fun y => Sts w [rowP 81 2 r2 (Rng.ofV (l ++ [(f, t)])).length (Fil.rcells (Rng.ofV (l ++ [(f, t)]))), rowP 81 2 v1 (l ++ [(f, t)]).length (Fil.rcells (l ++ [(f, t)])), blkP b (.cells #[.int .i64 f, .int .i64 t] 81 (0, 0)), blkP w.heap.size (.cells #[.int .i64 f, .int .i64 t] 81 (0, 0))] y), hs2, (fun z hz => ⟨(Sts.boxCell hz.tail.tail.tail 0 _ rfl).1, (Sts.boxCell hz.tail.tail.tail 1 _ rfl).1⟩), (fun _ h => h), ?_⟩
    clear hs2 hN hy y
    apply ord_norm
    · go_simp; rfl
    apply ord_pure (ho := rfl)
    · go_simp
    · intro x hx; obtain ⟨q0, q1⟩ := hx; go_simp; rfl
    apply ord_norm
    · go_simp; rfl
    refine ord_nil fun z hz => ?_
    have HZ := hid hz
    clear hz
    go_wp2_with fail
    go_ret
    exact ⟨_, rfl, Sts.isNewR HZ.out rfl⟩
  · apply ord_eff (ho := rfl)
    · go_simp
    intro y hy
    obtain ⟨q0, q1⟩ : y.cell? ⟨w.heap.size, 0, none⟩ = some (.int .i64 f) ∧ y.cell? ⟨w.heap.size, 1, none⟩ = some (.int .i64 t) := ⟨(Sts.boxCell hy 0 _ rfl).1, (Sts.boxCell hy 1 _ rfl).1⟩
    have hs2 := (hy.alloc (stabC (blkP_stable _ _) stab0) (.cells #[.int .i64 f, .int .i64 t] 81))
    generalize hb : y.heap.size = b at hs2
    refine eff_value (fun y => y.cell? ⟨w.heap.size, 0, none⟩ = some (.int .i64 f) ∧ y.cell? ⟨w.heap.size, 1, none⟩ = some (.int .i64 t)) (fun y => Sts w [blkP b (.cells #[.int .i64 f, .int .i64 t] 81 (0, 0)), blkP w.heap.size (.cells #[.int .i64 f, .int .i64 t] 81 (0, 0))] y) (w := y.alloc (.cells #[.int .i64 f, .int .i64 t] 81)) (v := .slice (some ⟨b, 0, none⟩) 1 1) ?_ hs2 (fun z hz => ⟨(Sts.boxCell hz.tail 0 _ rfl).1, (Sts.boxCell hz.tail 1 _ rfl).1⟩) (fun _ h => h) ?_
    · clear hs2 hy; subst hb; go_simp
    clear hs2 hy q0 q1 hb y
    apply ord_norm
    · go_simp; rfl
    apply ord_eff (ho := rfl)
    · go_simp
    intro y hy
    refine eff_call (f := 79) (by go_simp) (cCloneR y v l (HR.out.below hy.below) hn) ?_
    rintro e w2 ⟨r, rfl, hN⟩
    have hs2 := Sts.newR (stabC (blkP_stable _ _) (stabC (blkP_stable _ _) stab0)) hy hN
    refine ⟨_, rfl, (fun y => y.cell? ⟨w.heap.size, 0, none⟩ = some (.int .i64 f) ∧ y.cell? ⟨w.heap.size, 1, none⟩ = some (.int .i64 t)), (fun y => Sts w [rowP 81 2 r l.length (Fil.rcells l), blkP b (.cells #[.int .i64 f, .int .i64 t] 81 (0, 0)), blkP w.heap.size (.cells #[.int .i64 f, .int .i64 t] 81 (0, 0))] y), hs2, (fun z hz => ⟨(Sts.boxCell hz.tail.tail 0 _ rfl).1, (Sts.boxCell hz.tail.tail 1 _ rfl).1⟩), (fun _ h => h), ?_⟩
    clear hs2 hN hy y
    apply ord_norm
    · go_simp; rfl
    apply ord_eff (ho := rfl)
    · go_simp
    intro y hy
    refine effR_append hy (stabC (blkP_stable _ _) (stabC (blkP_stable _ _) stab0)) (.tmp 6) (.tmp 8) rfl rfl rfl hn (fun y => y.cell? ⟨w.heap.size, 0, none⟩ = some (.int .i64 f) ∧ y.cell? ⟨w.heap.size, 1, none⟩ = some (.int .i64 t)) (fun v1 z hz => ⟨(Sts.boxCell hz.tail.tail 0 _ rfl).1, (Sts.boxCell hz.tail.tail 1 _ rfl).1⟩) ?_
    intro v1
    clear hy y
    apply ord_norm
    · go_simp; rfl
    apply ord_eff (ho := rfl)
    · go_simp
    intro y hy
    refine eff_call (f := 118) (by go_simp) (cNormal y v1 (l ++ [(f, t)]) (RdR.of_own (Sts.rowOwnK hy) rfl) hn2) ?_
    rintro e w2 ⟨r2, rfl, hN⟩
    have hs2 := Sts.newR (stabC (rowP_stable _ _ _ _ _) (stabC (blkP_stable _ _) (stabC (blkP_stable _ _) stab0))) hy hN
    refine ⟨_, rfl, (fun y => y.cell? ⟨w.heap.size, 0, none⟩ = some (.int .i64 f) ∧ y.cell? ⟨w.heap.size, 1, none⟩ = some (.int .i64 t)), (fun y => Sts w [rowP 81 2 r2 (Rng.ofV (l ++ [(f, t)])).length (Fil.rcells (Rng.ofV (l ++ [(f, t)]))), rowP 81 2 v1 (l ++ [(f, t)]).length (Fil.rcells (l ++ [(f, t)])), blkP b (.cells #[.int .i64 f, .int .i64 t] 81 (0, 0)), blkP w.heap.size (.cells #[.int .i64 f, .int .i64 t] 81 (0, 0))] y), hs2, (fun z hz => ⟨(Sts.boxCell hz.tail.tail.tail 0 _ rfl).1, (Sts.boxCell hz.tail.tail.tail 1 _ rfl).1⟩), (fun _ h => h), ?_⟩
    clear hs2 hN hy y
    apply ord_norm
    · go_simp; rfl
    apply ord_pure (ho := rfl)
    · go_simp
    · intro x hx; obtain ⟨q0, q1⟩ := hx; go_simp; rfl
    apply ord_norm
    · go_simp; rfl
    refine ord_nil fun z hz => ?_
    have HZ := hid hz
    clear hz
    go_wp2_with fail
    go_ret
    exact ⟨_, rfl, Sts.isNewR HZ.out rfl⟩
end Go.Proofs.Ytfjadhkhmhnccaa
