/- Frames of the downlink, encoded. -/
import Derived.Test.YtnklmadmenkdoaaGreatQSdpJ
set_option linter.unusedVariables false
set_option linter.unusedSimpArgs false
namespace Go.Proofs.YtnklmadmenkdoaaGreat
open Go.RowKit Go.Proofs.Num
def tmB (i : Nat) (xs : List Nat) : List Nat := Cmd.crcB (Tmh.hd i ++ xs ++ [1, 0, 0, 0])
theorem tmB_len (i : Nat) (xs : List Nat) (h : xs.length = 244) : (tmB i xs).length = 256 := by unfold tmB; rw [Cmd.crcB_len]; simp [Tmh.hd, h]
theorem infoTm : (Tryz.prog.info? 74).map (·.size) = some 12 := by kernel_rfl
theorem ldTm {W w : World} {l : List HProp} {b : Nat} {cs : Array Value} (hs : cs.size = 12) (h : Sts W (blkP b (.cells cs 74 (0, 0)) :: l) w) : (loadVar 74 ⟨b, 0, none⟩).run Tryz.prog w = .ok (.agg cs) w := by
  have hb : w.heap[b]? = some (.cells cs 74 (0, 0)) := by obtain ⟨F, hF⟩ := h.head; exact hF.1
  exact run_loadVar_row (P := Tryz.prog) w b 74 74 cs (0, 0) _ hb Tryz.underlying74 rfl (by rw [infoTm, hs])
set_option maxRecDepth 100000 in
theorem ldClcAt {w : World} {b : Nat} (h0 : w.cell? ⟨b, 6, none⟩ = some (.int .i64 0)) (h1 : w.cell? ⟨b, 7, none⟩ = some (.bool false)) (h2 : w.cell? ⟨b, 8, none⟩ = some (.bool false)) (h3 : w.cell? ⟨b, 9, none⟩ = some (.bool false)) (h4 : w.cell? ⟨b, 10, none⟩ = some (.int .i64 0)) (h5 : w.cell? ⟨b, 11, none⟩ = some (.int .i64 0)) :
    (loadVar 72 ⟨b, 6, none⟩).run Tryz.prog w = .ok (.agg clcZ) w := by
  unfold clcZ
  go_simp
set_option maxRecDepth 100000 in
theorem exec_bld3 {o : Oper} {a : Act} {w : World} (x y z : Operand) (ho : o.op = .buildSlice 43 3 #[(0, x), (1, y), (2, z)]) (a1 : Option Addr) (n1 c1 : Nat) (a2 : Option Addr) (n2 c2 : Nat) (a3 : Option Addr) (n3 c3 : Nat) (hx : a.eval x = .slice a1 n1 c1) (hy : a.eval y = .slice a2 n2 c2) (hz : a.eval z = .slice a3 n3 c3) :
    (execOp a.eval o).run Tryz.prog w = .ok (.value (.slice (some ⟨w.heap.size, 0, none⟩) 3 3)) (w.alloc (.cells #[.slice a1 n1 c1, .slice a2 n2 c2, .slice a3 n3 c3] 35)) := by
  have key : ∀ u v t, u = Value.slice a1 n1 c1 → v = Value.slice a2 n2 c2 → t = Value.slice a3 n3 c3 → (Instr.buildSlice 43 3 #[(0, u), (1, v), (2, t)]).run Tryz.prog w = .ok (.slice (some ⟨w.heap.size, 0, none⟩) 3 3) (w.alloc (.cells #[.slice a1 n1 c1, .slice a2 n2 c2, .slice a3 n3 c3] 35)) := by
    rintro u v t rfl rfl rfl
    kernel_rfl
  unfold execOp
  simp only [ho]
  rw [show Array.map (fun x => (x.fst, a.eval x.snd)) #[((0 : Nat), x), (1, y), (2, z)] = #[(0, a.eval x), (1, a.eval y), (2, a.eval z)] by simp]
  simp only [Sem.run_bind, key _ _ _ hx hy hz, Result.andThen]
  rfl
theorem eff_bld3 {L : Prop} {o : Oper} {a : Act} {D : WP} {K : Act → WP → WP → Prop} {W w : World} {l : List HProp} (hl : ∀ B ∈ l, Stable B) (hS : Sts W l w) (x y z : Operand) (ho : o.op = .buildSlice 43 3 #[(0, x), (1, y), (2, z)]) (a1 : Option Addr) (n1 c1 : Nat) (a2 : Option Addr) (n2 c2 : Nat) (a3 : Option Addr) (n3 c3 : Nat) (hx : a.eval x = .slice a1 n1 c1) (hy : a.eval y = .slice a2 n2 c2) (hz : a.eval z = .slice a3 n3 c3) (hD : ∀ z g, Sts W (blkP g (.cells #[.slice a1 n1 c1, .slice a2 n2 c2, .slice a3 n3 c3] 35 (0, 0)) :: l) z → D z)
    (hk : ∀ g, K (a.put o.dst (.slice (some ⟨g, 0, none⟩) 3 3)) D (fun z => Sts W (blkP g (.cells #[.slice a1 n1 c1, .slice a2 n2 c2, .slice a3 n3 c3] 35 (0, 0)) :: l) z)) : effUpon Tryz.prog L o.dst a D K ((execOp a.eval o).run Tryz.prog w) := by
  have h := hS.alloc hl (.cells #[.slice a1 n1 c1, .slice a2 n2 c2, .slice a3 n3 c3] 35)
  rw [exec_bld3 x y z ho a1 n1 c1 a2 n2 c2 a3 n3 c3 hx hy hz]
  exact eff_value D _ rfl h (fun z hz => hD z _ hz) (fun _ h => h) (hk _)
set_option maxRecDepth 100000 in
set_option maxHeartbeats 4000000 in
theorem cTmEncode (i : Nat) (a : Option Addr) (cap : Nat) (xs : List Nat) (w : World) (hi : i < 16) (hn : xs.length = 244) (hd : RdB w (.slice a 244 cap) xs) :
    Calls Tryz.prog 70 #[.agg (tmV i (.slice a 244 cap))] w fun e w' => ∃ r, e = .returned (.tuple #[r, .int .i64 0]) ∧ New w w' 5 r (u8s (tmB i xs)) := by
  have HS : Hid (Sts w (blkP w.heap.size (.cells (tmV i (.slice a 244 cap)) 74 (0, 0)) :: []) (w.alloc (.cells (tmV i (.slice a 244 cap)) 74))) := hid (Sts.alloc stab0 (Sts.nil w) _)
  have HLB : Hid (∀ B ∈ [blkP w.heap.size (.cells (tmV i (.slice a 244 cap)) 74 (0, 0))], Stable B) := hid (stabC (blkP_stable _ _) stab0)
  have KV := hid (fun w => cTmValid w i a cap (by omega))
  have HD := hid hd
  have HI := hid hi
  have HN := hid hn
  have u5 : IntKind.u64.wrap 5 = 5 := by decide
  have u0 : IntKind.u64.wrap 0 = 0 := by decide
  have ui : IntKind.u64.wrap (i : Int) = (i : Int) := by rw [IntKind.wrap_u64]; omega
  have HLD := hid (fun (y : World) (h : Sts w (blkP w.heap.size (.cells (tmV i (.slice a 244 cap)) 74 (0, 0)) :: []) y) => ldTm (cs := tmV i (.slice a 244 cap)) rfl h)
  have HLEN : Hid ((Tmh.hd i ++ xs ++ [1, 0, 0, 0]).length < 1000000) := hid (by simp [Tmh.hd, hn])
  clear hd hn
  go_enter Tryz.func70, Tryz.ntmps70
  go_wp2_with (first
    | (refine wpList_ldS rfl (.tmp 1) 74 rfl rfl (.agg (tmV i (.slice a 244 cap))) (HLD.out _ HS.out) ?_)
    | (go_at_call 164; refine (KV.out _).mono ?_; rintro e w1 ⟨rfl, hb1⟩; have H1 := hid (HS.out.quiet HLB.out hb1); clear hb1)
    | (go_at_call 165; refine (cBitNew HLB.out H1.out).mono ?_; rintro e w2 ⟨q, rfl, h2⟩; have HP := hid (bw_new h2); clear h2))
  refine wp_region_ordQ (.pure 0 (.pure 2 (.pure 3 (.pure 4 (.pure 6 (.pure 7 (.pure 8 (.eff 1 (.eff 5 (.eff 9 (.eff 10 .nil))))))))))) (fun y => y.cell? ⟨w.heap.size, 0, none⟩ = some (.int .i64 5) ∧ y.cell? ⟨w.heap.size, 1, none⟩ = some (.int .i64 0) ∧ y.cell? ⟨w.heap.size, 2, none⟩ = some (.int .i64 (i : Int)) ∧ y.cell? ⟨w.heap.size, 3, none⟩ = some (.int .i64 (i : Int)) ∧ y.cell? ⟨w.heap.size, 4, none⟩ = some (.int .i64 0) ∧ y.cell? ⟨w.heap.size, 5, none⟩ = some (.slice a 244 cap)) (fun y => Sts w (bwP q 0 0 :: [blkP w.heap.size (.cells (tmV i (.slice a 244 cap)) 74 (0, 0))]) y) (by kernel_rfl) (by kernel_rfl) (HP.out.drew (stabC (bwP_stable _ _ _) HLB.out)) (fun y hy => ⟨(Sts.boxCell hy.tail 0 _ rfl).1, (Sts.boxCell hy.tail 1 _ rfl).1, (Sts.boxCell hy.tail 2 _ rfl).1, (Sts.boxCell hy.tail 3 _ rfl).1, (Sts.boxCell hy.tail 4 _ rfl).1, (Sts.boxCell hy.tail 5 _ rfl).1⟩) ?_
  iterate 7
    (apply ordq_pure (ho := rfl)
     · go_simp
     · intro x hx; obtain ⟨q0, q1, q2, q3, q4, q5⟩ := hx; go_simp; rfl
     apply ordq_norm
     · go_simp; rfl)
  apply ordq_eff (ho := rfl)
  · go_simp
  intro y hy
  refine eff_call (f := 166) (by go_simp) (wPut HLB.out hy (0) 2 (by omega) (by decide) (by decide)) ?_
  rintro e w3 ⟨rfl, h3⟩
  obtain ⟨x1, hx1⟩ : ∃ x, x = 0 * 2 ^ 2 + 0 % 2 ^ 2 := ⟨_, rfl⟩
  replace h3 : Sts w (bwP q 2 x1 :: [blkP w.heap.size (.cells (tmV i (.slice a 244 cap)) 74 (0, 0))]) w3 := by rw [hx1]; exact h3
  have HX1 := hid hx1
  clear hx1
  refine ⟨_, rfl, (fun y => y.cell? ⟨w.heap.size, 0, none⟩ = some (.int .i64 5) ∧ y.cell? ⟨w.heap.size, 1, none⟩ = some (.int .i64 0) ∧ y.cell? ⟨w.heap.size, 2, none⟩ = some (.int .i64 (i : Int)) ∧ y.cell? ⟨w.heap.size, 3, none⟩ = some (.int .i64 (i : Int)) ∧ y.cell? ⟨w.heap.size, 4, none⟩ = some (.int .i64 0) ∧ y.cell? ⟨w.heap.size, 5, none⟩ = some (.slice a 244 cap)), (fun y => Sts w (bwP q 2 x1 :: [blkP w.heap.size (.cells (tmV i (.slice a 244 cap)) 74 (0, 0))]) y), h3, (fun y hy => ⟨(Sts.boxCell hy.tail 0 _ rfl).1, (Sts.boxCell hy.tail 1 _ rfl).1, (Sts.boxCell hy.tail 2 _ rfl).1, (Sts.boxCell hy.tail 3 _ rfl).1, (Sts.boxCell hy.tail 4 _ rfl).1, (Sts.boxCell hy.tail 5 _ rfl).1⟩), (fun _ h => h), ?_⟩
  clear h3 hy y 
  apply ordq_norm
  · go_simp; rfl
  apply ordq_eff (ho := rfl)
  · go_simp
  intro y hy
  refine eff_call (f := 166) (by go_simp) (wPut HLB.out hy (5) 10 (by omega) (by decide) (by decide)) ?_
  rintro e w3 ⟨rfl, h3⟩
  obtain ⟨x2, hx2⟩ : ∃ x, x = x1 * 2 ^ 10 + 5 % 2 ^ 10 := ⟨_, rfl⟩
  replace h3 : Sts w (bwP q 12 x2 :: [blkP w.heap.size (.cells (tmV i (.slice a 244 cap)) 74 (0, 0))]) w3 := by rw [hx2]; exact h3
  have HX2 := hid hx2
  clear hx2
  refine ⟨_, rfl, (fun y => y.cell? ⟨w.heap.size, 0, none⟩ = some (.int .i64 5) ∧ y.cell? ⟨w.heap.size, 1, none⟩ = some (.int .i64 0) ∧ y.cell? ⟨w.heap.size, 2, none⟩ = some (.int .i64 (i : Int)) ∧ y.cell? ⟨w.heap.size, 3, none⟩ = some (.int .i64 (i : Int)) ∧ y.cell? ⟨w.heap.size, 4, none⟩ = some (.int .i64 0) ∧ y.cell? ⟨w.heap.size, 5, none⟩ = some (.slice a 244 cap)), (fun y => Sts w (bwP q 12 x2 :: [blkP w.heap.size (.cells (tmV i (.slice a 244 cap)) 74 (0, 0))]) y), h3, (fun y hy => ⟨(Sts.boxCell hy.tail 0 _ rfl).1, (Sts.boxCell hy.tail 1 _ rfl).1, (Sts.boxCell hy.tail 2 _ rfl).1, (Sts.boxCell hy.tail 3 _ rfl).1, (Sts.boxCell hy.tail 4 _ rfl).1, (Sts.boxCell hy.tail 5 _ rfl).1⟩), (fun _ h => h), ?_⟩
  clear h3 hy y 
  apply ordq_norm
  · go_simp; rfl
  apply ordq_eff (ho := rfl)
  · go_simp
  intro y hy
  refine eff_call (f := 166) (by go_simp) (wPut HLB.out hy (0) 3 (by omega) (by decide) (by decide)) ?_
  rintro e w3 ⟨rfl, h3⟩
  obtain ⟨x3, hx3⟩ : ∃ x, x = x2 * 2 ^ 3 + 0 % 2 ^ 3 := ⟨_, rfl⟩
  replace h3 : Sts w (bwP q 15 x3 :: [blkP w.heap.size (.cells (tmV i (.slice a 244 cap)) 74 (0, 0))]) w3 := by rw [hx3]; exact h3
  have HX3 := hid hx3
  clear hx3
  refine ⟨_, rfl, (fun y => y.cell? ⟨w.heap.size, 0, none⟩ = some (.int .i64 5) ∧ y.cell? ⟨w.heap.size, 1, none⟩ = some (.int .i64 0) ∧ y.cell? ⟨w.heap.size, 2, none⟩ = some (.int .i64 (i : Int)) ∧ y.cell? ⟨w.heap.size, 3, none⟩ = some (.int .i64 (i : Int)) ∧ y.cell? ⟨w.heap.size, 4, none⟩ = some (.int .i64 0) ∧ y.cell? ⟨w.heap.size, 5, none⟩ = some (.slice a 244 cap)), (fun y => Sts w (bwP q 15 x3 :: [blkP w.heap.size (.cells (tmV i (.slice a 244 cap)) 74 (0, 0))]) y), h3, (fun y hy => ⟨(Sts.boxCell hy.tail 0 _ rfl).1, (Sts.boxCell hy.tail 1 _ rfl).1, (Sts.boxCell hy.tail 2 _ rfl).1, (Sts.boxCell hy.tail 3 _ rfl).1, (Sts.boxCell hy.tail 4 _ rfl).1, (Sts.boxCell hy.tail 5 _ rfl).1⟩), (fun _ h => h), ?_⟩
  clear h3 hy y 
  apply ordq_norm
  · go_simp; rfl
  apply ordq_eff (ho := rfl)
  · go_simp
  intro y hy
  refine eff_call (f := 166) (by go_simp) (wPut HLB.out hy (1) 1 (by omega) (by decide) (by decide)) ?_
  rintro e w3 ⟨rfl, h3⟩
  obtain ⟨x4, hx4⟩ : ∃ x, x = x3 * 2 ^ 1 + 1 % 2 ^ 1 := ⟨_, rfl⟩
  replace h3 : Sts w (bwP q 16 x4 :: [blkP w.heap.size (.cells (tmV i (.slice a 244 cap)) 74 (0, 0))]) w3 := by rw [hx4]; exact h3
  have HX4 := hid hx4
  clear hx4
  refine ⟨_, rfl, (fun y => y.cell? ⟨w.heap.size, 0, none⟩ = some (.int .i64 5) ∧ y.cell? ⟨w.heap.size, 1, none⟩ = some (.int .i64 0) ∧ y.cell? ⟨w.heap.size, 2, none⟩ = some (.int .i64 (i : Int)) ∧ y.cell? ⟨w.heap.size, 3, none⟩ = some (.int .i64 (i : Int)) ∧ y.cell? ⟨w.heap.size, 4, none⟩ = some (.int .i64 0) ∧ y.cell? ⟨w.heap.size, 5, none⟩ = some (.slice a 244 cap)), (fun y => Sts w (bwP q 16 x4 :: [blkP w.heap.size (.cells (tmV i (.slice a 244 cap)) 74 (0, 0))]) y), h3, (fun y hy => ⟨(Sts.boxCell hy.tail 0 _ rfl).1, (Sts.boxCell hy.tail 1 _ rfl).1, (Sts.boxCell hy.tail 2 _ rfl).1, (Sts.boxCell hy.tail 3 _ rfl).1, (Sts.boxCell hy.tail 4 _ rfl).1, (Sts.boxCell hy.tail 5 _ rfl).1⟩), (fun _ h => h), ?_⟩
  clear h3 hy y 
  apply ordq_norm
  · go_simp; rfl
  refine ordq_nil fun z hz => ?_
  have HP2 := hid hz
  clear hz HP
  go_wp2_with fail
  refine wp_region_ordQ (.pure 0 (.pure 1 (.pure 2 (.pure 3 (.pure 5 (.pure 6 (.pure 7 (.pure 10 (.pure 11 (.pure 12 (.eff 4 (.eff 8 (.eff 9 (.eff 13 .nil)))))))))))))) (fun y => y.cell? ⟨w.heap.size, 0, none⟩ = some (.int .i64 5) ∧ y.cell? ⟨w.heap.size, 1, none⟩ = some (.int .i64 0) ∧ y.cell? ⟨w.heap.size, 2, none⟩ = some (.int .i64 (i : Int)) ∧ y.cell? ⟨w.heap.size, 3, none⟩ = some (.int .i64 (i : Int)) ∧ y.cell? ⟨w.heap.size, 4, none⟩ = some (.int .i64 0) ∧ y.cell? ⟨w.heap.size, 5, none⟩ = some (.slice a 244 cap)) (fun y => Sts w (bwP q 16 x4 :: [blkP w.heap.size (.cells (tmV i (.slice a 244 cap)) 74 (0, 0))]) y) (by kernel_rfl) (by kernel_rfl) (HP2.out.drew (stabC (bwP_stable _ _ _) HLB.out)) (fun y hy => ⟨(Sts.boxCell hy.tail 0 _ rfl).1, (Sts.boxCell hy.tail 1 _ rfl).1, (Sts.boxCell hy.tail 2 _ rfl).1, (Sts.boxCell hy.tail 3 _ rfl).1, (Sts.boxCell hy.tail 4 _ rfl).1, (Sts.boxCell hy.tail 5 _ rfl).1⟩) ?_
  iterate 10
    (apply ordq_pure (ho := rfl)
     · go_simp
     · intro x hx; obtain ⟨q0, q1, q2, q3, q4, q5⟩ := hx; go_simp; rfl
     apply ordq_norm
     · go_simp; rfl)
  apply ordq_eff (ho := rfl)
  · go_simp
  intro y hy
  refine eff_call (f := 166) (by go_simp) (wPut HLB.out hy (i) 8 (by omega) (by decide) (by decide)) ?_
  rintro e w3 ⟨rfl, h3⟩
  obtain ⟨x5, hx5⟩ : ∃ x, x = x4 * 2 ^ 8 + i % 2 ^ 8 := ⟨_, rfl⟩
  replace h3 : Sts w (bwP q 24 x5 :: [blkP w.heap.size (.cells (tmV i (.slice a 244 cap)) 74 (0, 0))]) w3 := by rw [hx5]; exact h3
  have HX5 := hid hx5
  clear hx5
  refine ⟨_, rfl, (fun y => y.cell? ⟨w.heap.size, 0, none⟩ = some (.int .i64 5) ∧ y.cell? ⟨w.heap.size, 1, none⟩ = some (.int .i64 0) ∧ y.cell? ⟨w.heap.size, 2, none⟩ = some (.int .i64 (i : Int)) ∧ y.cell? ⟨w.heap.size, 3, none⟩ = some (.int .i64 (i : Int)) ∧ y.cell? ⟨w.heap.size, 4, none⟩ = some (.int .i64 0) ∧ y.cell? ⟨w.heap.size, 5, none⟩ = some (.slice a 244 cap)), (fun y => Sts w (bwP q 24 x5 :: [blkP w.heap.size (.cells (tmV i (.slice a 244 cap)) 74 (0, 0))]) y), h3, (fun y hy => ⟨(Sts.boxCell hy.tail 0 _ rfl).1, (Sts.boxCell hy.tail 1 _ rfl).1, (Sts.boxCell hy.tail 2 _ rfl).1, (Sts.boxCell hy.tail 3 _ rfl).1, (Sts.boxCell hy.tail 4 _ rfl).1, (Sts.boxCell hy.tail 5 _ rfl).1⟩), (fun _ h => h), ?_⟩
  clear h3 hy y 
  apply ordq_norm
  · go_simp; rfl
  apply ordq_eff (ho := rfl)
  · go_simp
  intro y hy
  refine eff_call (f := 166) (by go_simp) (wPut HLB.out hy (i) 8 (by omega) (by decide) (by decide)) ?_
  rintro e w3 ⟨rfl, h3⟩
  obtain ⟨x6, hx6⟩ : ∃ x, x = x5 * 2 ^ 8 + i % 2 ^ 8 := ⟨_, rfl⟩
  replace h3 : Sts w (bwP q 32 x6 :: [blkP w.heap.size (.cells (tmV i (.slice a 244 cap)) 74 (0, 0))]) w3 := by rw [hx6]; exact h3
  have HX6 := hid hx6
  clear hx6
  refine ⟨_, rfl, (fun y => y.cell? ⟨w.heap.size, 0, none⟩ = some (.int .i64 5) ∧ y.cell? ⟨w.heap.size, 1, none⟩ = some (.int .i64 0) ∧ y.cell? ⟨w.heap.size, 2, none⟩ = some (.int .i64 (i : Int)) ∧ y.cell? ⟨w.heap.size, 3, none⟩ = some (.int .i64 (i : Int)) ∧ y.cell? ⟨w.heap.size, 4, none⟩ = some (.int .i64 0) ∧ y.cell? ⟨w.heap.size, 5, none⟩ = some (.slice a 244 cap)), (fun y => Sts w (bwP q 32 x6 :: [blkP w.heap.size (.cells (tmV i (.slice a 244 cap)) 74 (0, 0))]) y), h3, (fun y hy => ⟨(Sts.boxCell hy.tail 0 _ rfl).1, (Sts.boxCell hy.tail 1 _ rfl).1, (Sts.boxCell hy.tail 2 _ rfl).1, (Sts.boxCell hy.tail 3 _ rfl).1, (Sts.boxCell hy.tail 4 _ rfl).1, (Sts.boxCell hy.tail 5 _ rfl).1⟩), (fun _ h => h), ?_⟩
  clear h3 hy y 
  apply ordq_norm
  · go_simp; rfl
  apply ordq_eff (ho := rfl)
  · go_simp
  intro y hy
  refine eff_call (f := 166) (by go_simp) (wPut HLB.out hy (3) 5 (by omega) (by decide) (by decide)) ?_
  rintro e w3 ⟨rfl, h3⟩
  obtain ⟨x7, hx7⟩ : ∃ x, x = x6 * 2 ^ 5 + 3 % 2 ^ 5 := ⟨_, rfl⟩
  replace h3 : Sts w (bwP q 37 x7 :: [blkP w.heap.size (.cells (tmV i (.slice a 244 cap)) 74 (0, 0))]) w3 := by rw [hx7]; exact h3
  have HX7 := hid hx7
  clear hx7
  refine ⟨_, rfl, (fun y => y.cell? ⟨w.heap.size, 0, none⟩ = some (.int .i64 5) ∧ y.cell? ⟨w.heap.size, 1, none⟩ = some (.int .i64 0) ∧ y.cell? ⟨w.heap.size, 2, none⟩ = some (.int .i64 (i : Int)) ∧ y.cell? ⟨w.heap.size, 3, none⟩ = some (.int .i64 (i : Int)) ∧ y.cell? ⟨w.heap.size, 4, none⟩ = some (.int .i64 0) ∧ y.cell? ⟨w.heap.size, 5, none⟩ = some (.slice a 244 cap)), (fun y => Sts w (bwP q 37 x7 :: [blkP w.heap.size (.cells (tmV i (.slice a 244 cap)) 74 (0, 0))]) y), h3, (fun y hy => ⟨(Sts.boxCell hy.tail 0 _ rfl).1, (Sts.boxCell hy.tail 1 _ rfl).1, (Sts.boxCell hy.tail 2 _ rfl).1, (Sts.boxCell hy.tail 3 _ rfl).1, (Sts.boxCell hy.tail 4 _ rfl).1, (Sts.boxCell hy.tail 5 _ rfl).1⟩), (fun _ h => h), ?_⟩
  clear h3 hy y 
  apply ordq_norm
  · go_simp; rfl
  apply ordq_eff (ho := rfl)
  · go_simp
  intro y hy
  refine eff_call (f := 166) (by go_simp) (wPut HLB.out hy (0) 11 (by omega) (by decide) (by decide)) ?_
  rintro e w3 ⟨rfl, h3⟩
  obtain ⟨x8, hx8⟩ : ∃ x, x = x7 * 2 ^ 11 + 0 % 2 ^ 11 := ⟨_, rfl⟩
  replace h3 : Sts w (bwP q 48 x8 :: [blkP w.heap.size (.cells (tmV i (.slice a 244 cap)) 74 (0, 0))]) w3 := by rw [hx8]; exact h3
  have HX8 := hid hx8
  clear hx8
  refine ⟨_, rfl, (fun y => y.cell? ⟨w.heap.size, 0, none⟩ = some (.int .i64 5) ∧ y.cell? ⟨w.heap.size, 1, none⟩ = some (.int .i64 0) ∧ y.cell? ⟨w.heap.size, 2, none⟩ = some (.int .i64 (i : Int)) ∧ y.cell? ⟨w.heap.size, 3, none⟩ = some (.int .i64 (i : Int)) ∧ y.cell? ⟨w.heap.size, 4, none⟩ = some (.int .i64 0) ∧ y.cell? ⟨w.heap.size, 5, none⟩ = some (.slice a 244 cap)), (fun y => Sts w (bwP q 48 x8 :: [blkP w.heap.size (.cells (tmV i (.slice a 244 cap)) 74 (0, 0))]) y), h3, (fun y hy => ⟨(Sts.boxCell hy.tail 0 _ rfl).1, (Sts.boxCell hy.tail 1 _ rfl).1, (Sts.boxCell hy.tail 2 _ rfl).1, (Sts.boxCell hy.tail 3 _ rfl).1, (Sts.boxCell hy.tail 4 _ rfl).1, (Sts.boxCell hy.tail 5 _ rfl).1⟩), (fun _ h => h), ?_⟩
  clear h3 hy y 
  apply ordq_norm
  · go_simp; rfl
  refine ordq_nil fun z hz => ?_
  have HP3 := hid hz
  clear hz HP2
  have HXX : Hid (Bitw.pk 48 x8 = Tmh.hd i) := hid (by
    have hx : x8 = Tmh.tmX i := by rw [HX8.out, HX7.out, HX6.out, HX5.out, HX4.out, HX3.out, HX2.out, HX1.out]; rfl
    rw [hx]; exact Tmh.pk_hd i HI.out)
  have HLC := hid (ldClcAt (Sts.boxCell HP3.out.tail 6 _ rfl).1 (Sts.boxCell HP3.out.tail 7 _ rfl).1 (Sts.boxCell HP3.out.tail 8 _ rfl).1 (Sts.boxCell HP3.out.tail 9 _ rfl).1 (Sts.boxCell HP3.out.tail 10 _ rfl).1 (Sts.boxCell HP3.out.tail 11 _ rfl).1)
  go_wp2_with (first
    | (refine wpList_ldS rfl (.tmp 37) 72 rfl rfl (.agg clcZ) HLC.out ?_)
    | (go_at_call 167; refine (cClcwEnc _).mono ?_; rintro e w5 ⟨r, rfl, h5⟩
       have h6 := Sts.new (stabC (bwP_stable _ _ _) HLB.out) HP3.out h5
       obtain ⟨wa, wc, rfl⟩ := own_slice h6.rowOwn
       have H6 : Hid (Sts w (rowP 5 1 (.slice wa 4 wc) 4 (u8s [1, 0, 0, 0]) :: bwP q 48 x8 :: [blkP w.heap.size (.cells (tmV i (.slice a 244 cap)) 74 (0, 0))]) w5) := hid h6
       clear h5 h6))
  refine wp_region_ordQ (.pure 0 (.pure 2 (.pure 3 (.pure 4 (.eff 1 (.eff 5 (.eff 6 (.eff 7 (.pure 8 (.pure 9 .nil)))))))))) (fun y => y.cell? ⟨w.heap.size, 5, none⟩ = some (.slice a 244 cap)) (fun y => Sts w (rowP 5 1 (.slice wa 4 wc) 4 (u8s [1, 0, 0, 0]) :: bwP q 48 x8 :: [blkP w.heap.size (.cells (tmV i (.slice a 244 cap)) 74 (0, 0))]) y) (by kernel_rfl) (by kernel_rfl) (H6.out.drew (stabC (rowP_stable _ _ _ _ _) (stabC (bwP_stable _ _ _) HLB.out))) (fun y hy => (Sts.boxCell hy.tail.tail 5 _ rfl).1) ?_
  iterate 4
    (apply ordq_pure (ho := rfl)
     · go_simp
     · intro x hx; go_simp; rfl
     apply ordq_norm
     · go_simp; rfl)
  apply ordq_eff (ho := rfl)
  · go_simp
  intro y hy
  refine eff_call (f := 169) (by go_simp) (wBitBytes (stabC (rowP_stable _ _ _ _ _) HLB.out) hy.swap (by decide)) ?_
  rintro e w3 ⟨r, rfl, h3⟩
  rw [HXX.out] at h3
  obtain ⟨ha, hc, rfl⟩ := own_slice h3.rowOwn
  replace h3 : Sts w (rowP 5 1 (.slice ha 6 hc) 6 (u8s (Tmh.hd i)) :: bwP q 48 x8 :: rowP 5 1 (.slice wa 4 wc) 4 (u8s [1, 0, 0, 0]) :: [blkP w.heap.size (.cells (tmV i (.slice a 244 cap)) 74 (0, 0))]) w3 := h3
  refine ⟨_, rfl, (fun y => y.cell? ⟨w.heap.size, 5, none⟩ = some (.slice a 244 cap)), (fun y => Sts w (rowP 5 1 (.slice ha 6 hc) 6 (u8s (Tmh.hd i)) :: bwP q 48 x8 :: rowP 5 1 (.slice wa 4 wc) 4 (u8s [1, 0, 0, 0]) :: [blkP w.heap.size (.cells (tmV i (.slice a 244 cap)) 74 (0, 0))]) y), h3, (fun y hy => (Sts.boxCell hy.tail.tail.tail 5 _ rfl).1), (fun _ h => h), ?_⟩
  clear h3 hy y 
  apply ordq_norm
  · go_simp; rfl
  apply ordq_eff (ho := rfl)
  · go_simp
  intro y hy
  refine eff_bld3 (stabC (rowP_stable _ _ _ _ _) (stabC (bwP_stable _ _ _) (stabC (rowP_stable _ _ _ _ _) HLB.out))) hy (.tmp 46) (.tmp 48) (.tmp 49) rfl ha 6 hc a 244 cap wa 4 wc ?_ ?_ ?_ (fun z bg hz => (Sts.boxCell hz.tail.tail.tail.tail 5 _ rfl).1) ?_
  · (go_simp; try rfl)
  · go_simp
  · (go_simp; try rfl)
  intro bg
  apply ordq_norm
  · go_simp; rfl
  clear hy y
  apply ordq_eff (ho := rfl)
  · go_simp
  intro y hy
  refine eff_call (f := 168) (by go_simp) (cJoin3 y bg _ _ _ (Tmh.hd i) xs [1, 0, 0, 0] (Sts.boxCell hy 0 _ rfl).1 (Sts.boxCell hy 1 _ rfl).1 (Sts.boxCell hy 2 _ rfl).1 (Sts.rdB8 (l := Tmh.hd i) hy.tail (Tmh.hd_lt i HI.out)) (HD.out.below hy.below) (Sts.rdB8 (l := [1, 0, 0, 0]) hy.tail.tail.tail (by decide)) (by rw [HN.out]; simp [Tmh.hd])) ?_
  rintro e w3 ⟨r, rfl, h3, h4, h5⟩
  refine ⟨_, rfl, (fun y => y.cell? ⟨w.heap.size, 5, none⟩ = some (.slice a 244 cap)), (fun y => Sts w (blkP bg (.cells #[.slice ha 6 hc, .slice a 244 cap, .slice wa 4 wc] 35 (0, 0)) :: rowP 5 1 (.slice ha 6 hc) 6 (u8s (Tmh.hd i)) :: bwP q 48 x8 :: rowP 5 1 (.slice wa 4 wc) 4 (u8s [1, 0, 0, 0]) :: [blkP w.heap.size (.cells (tmV i (.slice a 244 cap)) 74 (0, 0))]) y ∧ RdB y r (Tmh.hd i ++ xs ++ [1, 0, 0, 0])), ⟨hy.quiet (stabC (blkP_stable _ _) (stabC (rowP_stable _ _ _ _ _) (stabC (bwP_stable _ _ _) (stabC (rowP_stable _ _ _ _ _) HLB.out)))) h5, h3⟩, (fun y hy => (Sts.boxCell hy.1.tail.tail.tail.tail 5 _ rfl).1), (fun _ h => h), ?_⟩
  have H4 := hid h4
  clear h3 h4 h5 hy y
  apply ordq_norm
  · go_simp; rfl
  apply ordq_eff (ho := rfl)
  · go_simp
  intro y hy
  refine eff_call (f := 152) (by go_simp) (cAppend16 y r (Tmh.hd i ++ xs ++ [1, 0, 0, 0]) hy.2 H4.out HLEN.out) ?_
  rintro e w3 ⟨r2, rfl, h3⟩
  refine ⟨_, rfl, (fun y => y.cell? ⟨w.heap.size, 5, none⟩ = some (.slice a 244 cap)), (fun y => Sts w (rowP 5 1 r2 (u8s (tmB i xs)).length (u8s (tmB i xs)) :: blkP bg (.cells #[.slice ha 6 hc, .slice a 244 cap, .slice wa 4 wc] 35 (0, 0)) :: rowP 5 1 (.slice ha 6 hc) 6 (u8s (Tmh.hd i)) :: bwP q 48 x8 :: rowP 5 1 (.slice wa 4 wc) 4 (u8s [1, 0, 0, 0]) :: [blkP w.heap.size (.cells (tmV i (.slice a 244 cap)) 74 (0, 0))]) y), Sts.new (stabC (blkP_stable _ _) (stabC (rowP_stable _ _ _ _ _) (stabC (bwP_stable _ _ _) (stabC (rowP_stable _ _ _ _ _) HLB.out)))) hy.1 h3, (fun y hy => (Sts.boxCell hy.tail.tail.tail.tail.tail 5 _ rfl).1), (fun _ h => h), ?_⟩
  clear h3 hy y
  apply ordq_norm
  · go_simp; rfl
  iterate 2
    (apply ordq_pure (ho := rfl)
     · go_simp
     · intro x hx; go_simp; rfl
     apply ordq_norm
     · go_simp; rfl)
  refine ordq_nil fun z hz => ?_
  have HZ := hid hz
  clear hz H6
  go_wp2_with fail
  go_ret2
  exact ⟨r2, rfl, New.of_sts (Sts.sub HZ.out (.cons_cons _ (List.nil_sublist _))) rfl⟩
end Go.Proofs.YtnklmadmenkdoaaGreat
