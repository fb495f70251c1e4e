/- Steps of a walk upon a list of assertions: the store of a struct, of a cell; results that lie in a cell. Numbers of 8 and of 14 bits: valid, added, their distance. Packets read: two bytes as a number, the length that a header states. Byte strings: what a slice of bytes converts to. No program in sight. -/
import Derived.Test.YtnklmadmenkdoaaGreatQStnA
import Derived.Laws.IdiomCopy
import Derived.Laws.ResultCell
import Derived.Test.YtnklmadmenkdoaaGreatQKeep
import Derived.Test.YtnklmadmenkdoaaGreatQSepc
import Derived.Laws.BytesArg
import Derived.Laws.StructEq
set_option linter.unusedVariables false
set_option linter.unusedSimpArgs false
namespace Go.Proofs.YtnklmadmenkdoaaGreat
open Go.RowKit Go.Proofs.Num
theorem setAll_cellsS (b : Nat) : ∀ (vs : List Value) (k : Nat) (w : World), setAll b k vs w = w.setCells b k vs
  | [], _, _ => rfl
  | v :: vs, k, w => setAll_cellsS b vs (k + 1) _
theorem putAll_getS : ∀ (vs : List Value) (k : Nat) (c : Array Value) (i : Nat), (putAll k vs c)[i]? = if k ≤ i ∧ i < k + vs.length ∧ i < c.size then vs[i - k]? else c[i]?
  | [], k, c, i => by rw [if_neg (by simp; omega)]; rfl
  | v :: vs, k, c, i => by
    show (putAll (k + 1) vs (c.setIfInBounds k v))[i]? = _
    rw [putAll_getS vs (k + 1)]
    simp only [Array.size_setIfInBounds, List.length_cons]
    by_cases h1 : k + 1 ≤ i ∧ i < k + 1 + vs.length ∧ i < c.size
    · rw [if_pos h1, if_pos (by omega), show i - k = (i - (k + 1)) + 1 by omega, List.getElem?_cons_succ]
    · rw [if_neg h1, Array.getElem?_setIfInBounds]
      by_cases h2 : k = i
      · subst h2
        by_cases h3 : k < c.size
        · rw [if_pos rfl, if_pos h3, if_pos (by omega), Nat.sub_self]; rfl
        · rw [if_pos rfl, if_neg h3, if_neg (by omega), Array.getElem?_eq_none (by omega)]
      · rw [if_neg h2, if_neg (by omega)]
theorem putAll_allS (vs c : Array Value) (hc : c.size = vs.size) : putAll 0 vs.toList c = vs := by
  apply Array.ext_getElem?
  intro i
  rw [putAll_getS]
  by_cases h : i < vs.size
  · rw [if_pos (by simp; omega)]; simp
  · rw [if_neg (by simp; omega), Array.getElem?_eq_none (by omega), Array.getElem?_eq_none (by omega)]
theorem exec_aggS {W w : World} {l : List HProp} {b : Nat} {c : Array Value} {t0 : TypeId} {o : Oper} {a : Act} (hS : Sts W (blkP b (.cells c t0 (0, 0)) :: l) w) (hl : ∀ B ∈ l, Stable B) (p v : Operand) (t : TypeId) (ho : o.op = .store t p v) (vs : Array Value)
    (hp : a.eval p = .pointer (some ⟨b, 0, none⟩)) (hv : a.eval v = .agg vs) (hz : ∀ w, (Go.sizeOf t).run Tryz.prog w = .ok vs.size w) (hc : c.size = vs.size) (h1 : vs.toList.all (fun v => v.oneCell') = true) :
    ∃ w', (execOp a.eval o).run Tryz.prog w = .ok .skip w' ∧ Sts W (blkP b (.cells vs t0 (0, 0)) :: l) w' := by
  have hb : w.heap[b]? = some (.cells c t0 (0, 0)) := by obtain ⟨F, hF⟩ := hS.head; exact hF.1
  have hst := run_storeCells_cells (P := Tryz.prog) b 0 vs.toList 0 w (fun j hj => by
      have hj2 : j < c.size := by rw [hc]; simpa using hj
      have h3 := cell_blk hb (Array.getElem?_eq_getElem hj2)
      simp only [Nat.zero_add]
      rw [h3]; rfl) (fun j hj => free_blk hb) (List.all_eq_true.1 h1)
  have hf := Sts.storeAll hl vs.toList 0 _ _ hS
  rw [putAll_allS vs c hc, setAll_cellsS] at hf
  refine ⟨_, ?_, hf⟩
  unfold execOp
  simp only [ho, hp, hv]
  simp [go_sem, Instr.storeAt, storeVar, hz, Value.cells, hst]
theorem wpList_aggS {ops : Array Oper} {rest : List Oper} {o : Oper} {a : Act} {Q : Exit → Act → World → Prop} {W w : World} {l : List HProp} {b : Nat} {c : Array Value} {t0 : TypeId}
    (hS : Sts W (blkP b (.cells c t0 (0, 0)) :: l) w) (hl : ∀ B ∈ l, Stable B) (hgd : o.guard = none) (p v : Operand) (t : TypeId) (ho : o.op = .store t p v) (vs : Array Value)
    (hp : a.eval p = .pointer (some ⟨b, 0, none⟩)) (hv : a.eval v = .agg vs) (hz : ∀ w, (Go.sizeOf t).run Tryz.prog w = .ok vs.size w) (hc : c.size = vs.size) (h1 : vs.toList.all (fun v => v.oneCell') = true)
    (h : ∀ w', Sts W (blkP b (.cells vs t0 (0, 0)) :: l) w' → wpList Tryz.prog ops Q rest (a.put o.dst undef) w') : wpList Tryz.prog ops Q (o :: rest) a w := by
  refine wpList_plain hgd fun K hK => ?_
  obtain ⟨w', hr, hf⟩ := exec_aggS (o := o) (a := a) hS hl p v t ho vs hp hv hz hc  h1
  unfold Oper.wp
  rw [hr]
  exact hK _ _ (h _ hf)
def cellBS : Value → Bool
  | .int _ _ => true
  | .bool _ => true
  | .string _ => true
  | .pointer _ => true
  | .slice _ _ _ => true
  | _ => false
/-- The store of one cell. -/
theorem wpList_cellS {ops : Array Oper} {rest : List Oper} {o : Oper} {a : Act} {Q : Exit → Act → World → Prop} {W w : World} {l : List HProp} {b : Nat} {c : Array Value} {t0 : TypeId}
    (hS : Sts W (blkP b (.cells c t0 (0, 0)) :: l) w) (hl : ∀ B ∈ l, Stable B) (hgd : o.guard = none) (p v : Operand) (t : TypeId) (ho : o.op = .store t p v) (j : Nat) (x : Value)
    (hp : a.eval p = .pointer (some ⟨b, j, none⟩)) (hv : a.eval v = x) (hz : ∀ w, (Go.sizeOf t).run Tryz.prog w = .ok 1 w) (hj : j < c.size) (h1 : cellBS x = true)
    (h : ∀ w', Sts W (blkP b (.cells (c.setIfInBounds j x) t0 (0, 0)) :: l) w' → wpList Tryz.prog ops Q rest (a.put o.dst undef) w') : wpList Tryz.prog ops Q (o :: rest) a w := by
  refine wpList_plain hgd fun K hK => ?_
  have hb : w.heap[b]? = some (.cells c t0 (0, 0)) := by obtain ⟨F, hF⟩ := hS.head; exact hF.1
  have h3 := cell_blk hb (Array.getElem?_eq_getElem hj)
  have h4 : w.frozen? ⟨b, j, none⟩ = false := free_blk hb
  have hf := Sts.store hl hS (j := j) x
  have hr : (execOp a.eval o).run Tryz.prog w = .ok .skip (w.setCell ⟨b, j, none⟩ x) := by
    unfold execOp
    simp only [ho, hp, hv]
    cases x
    all_goals first
      | (simp [cellBS] at h1; done)
      | (simp [go_sem, Instr.storeAt, storeVar, hz, Value.cells, h3, h4, Result.andThen])
  unfold Oper.wp
  rw [hr]
  exact hK _ _ (h _ hf)
set_option maxRecDepth 100000 in
theorem post_cell2S {fn : Func} {R : Ending → World → Prop} {a : Act} {W w : World} {l : List HProp} {b : Nat} {cs : Array Value} {t0 ty : TypeId} {p u : Tmp} (hS : Sts W (blkP b (.cells cs t0 (0, 0)) :: l) w)
    (hfn : fn.results = #[.cell p ty, .tmp u]) (hp : a.tmps.getD p undef = .pointer (some ⟨b, 0, none⟩)) (hdf : a.defers = []) (hld : (loadVar ty ⟨b, 0, none⟩).run Tryz.prog w = .ok (.agg cs) w)
    (x : Value) (hx : a.tmps.getD u undef = x) (hR : R (.returned (.tuple #[.agg cs, x])) w) : bodyPost Tryz.prog fn R .ret a w := by
  have hb : w.heap[b]? = some (.cells cs t0 (0, 0)) := by obtain ⟨F, hF⟩ := hS.head; exact hF.1
  refine bodyPost_ret (v := .tuple #[.agg cs, x]) ?_ hdf hR
  rw [results_cell_tmp hfn, hp, hx]
  show ((asAddr (.pointer (some ⟨b, 0, none⟩))).run Tryz.prog w).andThen _ = _
  rw [show (asAddr (.pointer (some ⟨b, 0, none⟩))).run Tryz.prog w = .ok ⟨b, 0, none⟩ w by simp [asAddr]]
  show ((loadVar ty ⟨b, 0, none⟩).run Tryz.prog w).andThen _ = _
  rw [hld]
  rfl
set_option maxRecDepth 100000 in
theorem post_cell1S {fn : Func} {R : Ending → World → Prop} {a : Act} {W w : World} {l : List HProp} {b : Nat} {cs : Array Value} {t0 ty : TypeId} {p : Tmp} (hS : Sts W (blkP b (.cells cs t0 (0, 0)) :: l) w)
    (hfn : fn.results = #[.cell p ty]) (hp : a.tmps.getD p undef = .pointer (some ⟨b, 0, none⟩)) (hdf : a.defers = []) (hld : (loadVar ty ⟨b, 0, none⟩).run Tryz.prog w = .ok (.agg cs) w)
    (hR : R (.returned (.agg cs)) w) : bodyPost Tryz.prog fn R .ret a w := by
  have hb : w.heap[b]? = some (.cells cs t0 (0, 0)) := by obtain ⟨F, hF⟩ := hS.head; exact hF.1
  refine bodyPost_ret (v := .agg cs) ?_ hdf hR
  have h1 : (results fn a.tmps).run Tryz.prog w = ((asAddr (a.tmps.getD p undef)).run Tryz.prog w).andThen fun a w₁ => (loadVar ty a).run Tryz.prog w₁ := by
    simp only [results, hfn]
    simp [Sem.run_bind, Result.andThen]
  rw [h1, hp]
  show ((asAddr (.pointer (some ⟨b, 0, none⟩))).run Tryz.prog w).andThen _ = _
  rw [show (asAddr (.pointer (some ⟨b, 0, none⟩))).run Tryz.prog w = .ok ⟨b, 0, none⟩ w by simp [asAddr]]
  show (loadVar ty ⟨b, 0, none⟩).run Tryz.prog w = _
  exact hld
end Go.Proofs.YtnklmadmenkdoaaGreat
namespace Go.Proofs.YtnklmadmenkdoaaGreat
open Go.RowKit Go.Proofs.Num
theorem ser_wrap8 (a : Nat) (n : Int) (ha : a < 256) (hn : -1000000 < n ∧ n < 1000000) : wrap64 ((IntKind.u64.wrap (IntKind.u64.wrap (a : Int) + IntKind.u64.wrap n)).tmod 256) = ((a : Int) + n) % 256 := by
  rw [IntKind.wrap_u64, IntKind.wrap_u64, IntKind.wrap_u64, Int.tmod_eq_emod_of_nonneg (by omega)]
  unfold wrap64
  omega
theorem ser_wrap14 (a : Nat) (n : Int) (ha : a < 16384) (hn : -1000000 < n ∧ n < 1000000) : wrap64 ((IntKind.u64.wrap (IntKind.u64.wrap (a : Int) + IntKind.u64.wrap n)).tmod 16384) = ((a : Int) + n) % 16384 := by
  rw [IntKind.wrap_u64, IntKind.wrap_u64, IntKind.wrap_u64, Int.tmod_eq_emod_of_nonneg (by omega)]
  unfold wrap64
  omega
section
variable (w : World)
theorem cSerValid8 (n : Nat) (hn : n < 256) : Calls Tryz.prog 204 #[.int .i64 (n : Int), .int .i64 8] w fun e w' => e = .returned (.bool true) ∧ w = w' := by
  have d1 : decide ((n : Int) < 256) = true := decide_eq_true (by omega)
  have d2 : decide (0 ≤ (n : Int)) = true := decide_eq_true (by omega)
  clear hn
  go_enter Tryz.func204, Tryz.ntmps204
  go_wp2_with fail
  go_ret
  exact ⟨by first | rfl | simp_all, rfl⟩
theorem cSerAdd8 (a : Nat) (n : Int) (ha : a < 256) (hn : -1000000 < n ∧ n < 1000000) : Calls Tryz.prog 205 #[.int .i64 (a : Int), .int .i64 n, .int .i64 8] w fun e w' => e = .returned (.int .i64 (((a : Int) + n) % 256)) ∧ w = w' := by
  have KV := hid (cSerValid8 w a ha)
  have HE := hid (ser_wrap8 a n ha hn)
  clear ha hn
  go_enter Tryz.func205, Tryz.ntmps205
  go_wp2_with (first | (go_at_call 204; refine KV.out.mono ?_; rintro e w1 ⟨rfl, rfl⟩))
  go_ret
  exact ⟨congrArg (fun x => Ending.returned (.int .i64 x)) HE.out, rfl⟩
theorem cSerDist8 (a b : Nat) (ha : a < 256) (hb : b < 256) : Calls Tryz.prog 132 #[.int .i64 (a : Int), .int .i64 (b : Int), .int .i64 8] w fun e w' => e = .returned (.int .i64 (((b : Int) + -(a : Int)) % 256)) ∧ w = w' := by
  have K1 := hid (cSerValid8 w a ha)
  have K2 := hid (cSerValid8 w b hb)
  have K3 := hid (cSerAdd8 w b (-(a : Int)) hb (by omega))
  have g1 : wrap64 (-(a : Int)) = -(a : Int) := by unfold wrap64; omega
  clear ha hb
  go_enter Tryz.func132, Tryz.ntmps132
  go_wp2_with fail
  refine K1.out.mono ?_
  rintro e w1 ⟨rfl, rfl⟩
  go_wp2_with fail
  refine K2.out.mono ?_
  rintro e w1 ⟨rfl, rfl⟩
  go_wp2_with fail
  refine K3.out.mono ?_
  rintro e w1 ⟨rfl, rfl⟩
  go_wp2_with fail
  go_ret
  exact ⟨rfl, rfl⟩
theorem cSerValid14 (n : Nat) (hn : n < 16384) : Calls Tryz.prog 204 #[.int .i64 (n : Int), .int .i64 14] w fun e w' => e = .returned (.bool true) ∧ w = w' := by
  have d1 : decide ((n : Int) < 16384) = true := decide_eq_true (by omega)
  have d2 : decide (0 ≤ (n : Int)) = true := decide_eq_true (by omega)
  clear hn
  go_enter Tryz.func204, Tryz.ntmps204
  go_wp2_with fail
  go_ret
  exact ⟨by first | rfl | simp_all, rfl⟩
theorem cSerAdd14 (a : Nat) (n : Int) (ha : a < 16384) (hn : -1000000 < n ∧ n < 1000000) : Calls Tryz.prog 205 #[.int .i64 (a : Int), .int .i64 n, .int .i64 14] w fun e w' => e = .returned (.int .i64 (((a : Int) + n) % 16384)) ∧ w = w' := by
  have KV := hid (cSerValid14 w a ha)
  have HE := hid (ser_wrap14 a n ha hn)
  clear ha hn
  go_enter Tryz.func205, Tryz.ntmps205
  go_wp2_with (first | (go_at_call 204; refine KV.out.mono ?_; rintro e w1 ⟨rfl, rfl⟩))
  go_ret
  exact ⟨congrArg (fun x => Ending.returned (.int .i64 x)) HE.out, rfl⟩
theorem cSerDist14 (a b : Nat) (ha : a < 16384) (hb : b < 16384) : Calls Tryz.prog 132 #[.int .i64 (a : Int), .int .i64 (b : Int), .int .i64 14] w fun e w' => e = .returned (.int .i64 (((b : Int) + -(a : Int)) % 16384)) ∧ w = w' := by
  have K1 := hid (cSerValid14 w a ha)
  have K2 := hid (cSerValid14 w b hb)
  have K3 := hid (cSerAdd14 w b (-(a : Int)) hb (by omega))
  have g1 : wrap64 (-(a : Int)) = -(a : Int) := by unfold wrap64; omega
  clear ha hb
  go_enter Tryz.func132, Tryz.ntmps132
  go_wp2_with fail
  refine K1.out.mono ?_
  rintro e w1 ⟨rfl, rfl⟩
  go_wp2_with fail
  refine K2.out.mono ?_
  rintro e w1 ⟨rfl, rfl⟩
  go_wp2_with fail
  refine K3.out.mono ?_
  rintro e w1 ⟨rfl, rfl⟩
  go_wp2_with fail
  go_ret
  exact ⟨rfl, rfl⟩
end
end Go.Proofs.YtnklmadmenkdoaaGreat
namespace Go.Proofs.YtnklmadmenkdoaaGreat
open Go.RowKit Go.Proofs.Num
theorem word_or (x y : Nat) (hx : x < 256) (hy : y < 256) : bits .or .i64 (IntKind.i64.wrap (IntKind.i64.wrap (x : Int) * 256)) (IntKind.i64.wrap (y : Int)) = ((x * 256 + y : Nat) : Int) := by
  have e1 : IntKind.i64.wrap (IntKind.i64.wrap (x : Int) * 256) = ((x * 256 : Nat) : Int) := by rw [IntKind.wrap_i64, IntKind.wrap_i64]; omega
  have e2 : IntKind.i64.wrap (y : Int) = (y : Int) := by rw [IntKind.wrap_i64]; omega
  rw [e1, e2, i64_or _ _ (by omega) (by omega), show x * 256 = x <<< 8 by rw [Nat.shiftLeft_eq], ← Nat.shiftLeft_add_eq_or_of_lt (show y < 2 ^ 8 by omega)]
set_option maxRecDepth 100000 in
theorem cPkWord (w : World) (b off n cap x y : Nat) (hn : 2 ≤ n) (hx : x < 256) (hy : y < 256) (k0 : w.cell? ⟨b, off, none⟩ = some (.int .u8 (x : Int))) (k1 : w.cell? ⟨b, off + 1, none⟩ = some (.int .u8 (y : Int))) :
    Calls Tryz.prog 211 #[.slice (some ⟨b, off, none⟩) n cap] w fun e w' => e = .returned (.int .i64 ((x * 256 + y : Nat) : Int)) ∧ ∃ m, w' = w.drewN m := by
  have i0 : 0 < n := by omega
  have i0' : (0 : Int) < (n : Int) := by omega
  have i1 : (1 : Int) < (n : Int) := by omega
  have HE := hid (word_or x y hx hy)
  clear hn hx hy
  go_enter Tryz.func211, Tryz.ntmps211
  go_wp2_with fail
  go_quiet (fail)
  rw [HE.out]
  go_wp2_with fail
  go_ret
  exact ⟨rfl, _, rfl⟩
set_option maxRecDepth 100000 in
theorem cPkSize (w : World) (b off n cap x0 x y : Nat) (hn : 6 ≤ n) (hx0 : x0 < 32) (hx : x < 256) (hy : y < 256) (hxy : 256 * x + y ≤ 4089) (hc : n ≤ cap) (k0 : w.cell? ⟨b, off, none⟩ = some (.int .u8 (x0 : Int))) (k4 : w.cell? ⟨b, off + 4, none⟩ = some (.int .u8 (x : Int))) (k5 : w.cell? ⟨b, off + 5, none⟩ = some (.int .u8 (y : Int))) :
    Calls Tryz.prog 210 #[.slice (some ⟨b, off, none⟩) n cap] w fun e w' => e = .returned (.tuple #[.int .i64 ((256 * x + y + 7 : Nat) : Int), .int .i64 0]) ∧ ∃ m, w' = w.drewN m := by
  have i0 : 0 < n := by omega
  have i0' : (0 : Int) < (n : Int) := by omega
  have i1 : (4 : Int) ≤ (n : Int) := by omega
  have d1 : decide ((n : Int) < 6) = false := decide_eq_false (by omega)
  have hc4 : ¬ cap = 4 := by omega
  have e1 : (x0 : Int) / 32 = 0 := by omega
  have KW := hid (cPkWord w b (off + 4) (n - 4) (cap - 4) x y (by omega) hx hy k4 (by rw [Nat.add_assoc]; exact k5))
  obtain ⟨N, hN⟩ : ∃ N, N = x * 256 + y := ⟨_, rfl⟩
  rw [← hN] at KW
  obtain ⟨N7, hN7⟩ : ∃ N7, N7 = 256 * x + y + 7 := ⟨_, rfl⟩
  rw [← hN7]
  have g1 : wrap64 (7 + (N : Int)) = (N7 : Int) := by unfold wrap64; omega
  have d2 : decide ((4096 : Int) < (N7 : Int)) = false := decide_eq_false (by omega)
  clear hn hx hy hx0 hxy hc hN hN7
  go_enter Tryz.func210, Tryz.ntmps210
  go_wp2_with fail
  refine KW.out.mono ?_
  rintro e w1 ⟨rfl, m, rfl⟩
  go_wp2_with fail
  go_ret2
  refine ⟨?_, _, rfl⟩
  show Ending.returned (.tuple #[.int .i64 (wrap64 (7 + (N : Int))), .int .i64 0]) = _
  rw [g1]
theorem len_wrap (x y N7 : Nat) (hx : x < 256) (hy : y < 256) (hN : N7 = 256 * x + y + 7) : IntKind.i64.wrap (IntKind.i64.wrap (7 + IntKind.i64.wrap (IntKind.i64.wrap (x : Int) * 256)) + IntKind.i64.wrap (y : Int)) = (N7 : Int) := by
  have e1 : IntKind.i64.wrap (x : Int) = (x : Int) := by rw [IntKind.wrap_i64]; omega
  have e2 : IntKind.i64.wrap (y : Int) = (y : Int) := by rw [IntKind.wrap_i64]; omega
  have e3 : IntKind.i64.wrap ((x : Int) * 256) = (x : Int) * 256 := by rw [IntKind.wrap_i64]; omega
  have e4 : IntKind.i64.wrap (7 + (x : Int) * 256) = 7 + (x : Int) * 256 := by rw [IntKind.wrap_i64]; omega
  have e5 : IntKind.i64.wrap (7 + (x : Int) * 256 + (y : Int)) = 7 + (x : Int) * 256 + (y : Int) := by rw [IntKind.wrap_i64]; omega
  rw [e1, e2, e3, e4, e5]
  omega
set_option maxRecDepth 100000 in
theorem cUnpLen (w : World) (b off n cap x0 x y : Nat) (hn : 6 ≤ n) (hx0 : x0 < 32) (hx : x < 256) (hy : y < 256) (hxy : 256 * x + y ≤ 4089) (hc : n ≤ cap) (k0 : w.cell? ⟨b, off, none⟩ = some (.int .u8 (x0 : Int))) (k4 : w.cell? ⟨b, off + 4, none⟩ = some (.int .u8 (x : Int))) (k5 : w.cell? ⟨b, off + 5, none⟩ = some (.int .u8 (y : Int))) :
    Calls Tryz.prog 257 #[.slice (some ⟨b, off, none⟩) n cap] w fun e w' => e = .returned (.tuple #[.int .i64 ((256 * x + y + 7 : Nat) : Int), .bool true]) ∧ ∃ m, w' = w.drewN m := by
  have i0 : 0 < n := by omega
  have i0' : (0 : Int) < (n : Int) := by omega
  have i4 : (4 : Int) < (n : Int) := by omega
  have i5 : (5 : Int) < (n : Int) := by omega
  have e1 : (x0 : Int) / 32 = 0 := by omega
  obtain ⟨N7, hN7⟩ : ∃ N7, N7 = 256 * x + y + 7 := ⟨_, rfl⟩
  rw [← hN7]
  have d2 : decide ((N7 : Int) ≤ 4096) = true := decide_eq_true (by omega)
  have HE := hid (len_wrap x y N7 hx hy hN7)
  clear hn hx hy hx0 hxy hc hN7
  go_enter Tryz.func257, Tryz.ntmps257
  go_wp2_with fail
  go_quiet (fail)
  rw [HE.out]
  have k0' : (w.drewN nq).cell? ⟨b, off, none⟩ = some (.int .u8 (x0 : Int)) := k0
  go_wp2_with fail
  go_ret2
  exact ⟨rfl, _, rfl⟩
end Go.Proofs.YtnklmadmenkdoaaGreat
namespace Go.Proofs.Num
open Go.RowKit
def strB (l : List Nat) : ByteArray := ⟨(l.map UInt8.ofNat).toArray⟩
theorem strB_inj (a b : List Nat) (ha : ∀ x ∈ a, x < 256) (hb : ∀ x ∈ b, x < 256) (h : strB a = strB b) : a = b := by
  have h1 : a.map UInt8.ofNat = b.map UInt8.ofNat := by
    unfold strB at h; injection h with h; simpa using h
  clear h
  induction a generalizing b with
  | nil => cases b with
    | nil => rfl
    | cons y b => simp at h1
  | cons x a ih => cases b with
    | nil => simp at h1
    | cons y b =>
      simp only [List.map_cons, List.cons.injEq] at h1
      have hx := ha x (by simp)
      have hy := hb y (by simp)
      have e : x = y := by
        have := congrArg UInt8.toNat h1.1
        simpa [UInt8.toNat_ofNat, Nat.mod_eq_of_lt hx, Nat.mod_eq_of_lt hy] using this
      rw [e, ih b (fun z hz => ha z (by simp [hz])) (fun z hz => hb z (by simp [hz])) h1.2]
theorem strB_of (l : List Nat) : strOfNums (l.map Int.ofNat) = strB l := by
  unfold strOfNums strB
  simp
theorem RdB.str {P : Program} {w : World} {v : Value} {l : List Nat} (h : RdB w v l) (src dst e : TypeId) (hs : P.underlying src = some (.slice e)) (he : P.underlying e = some (.int .u8)) (hd : P.underlying dst = some .string) :
    (convert src dst v).run P w = .ok (.string (strB l)) w := by
  obtain ⟨a, cap, rfl, hc⟩ := h.open
  cases l with
  | nil =>
    rw [run_convert_bytes_string w src dst e a _ cap hs he hd]
    cases a with
    | none => simp [Conv.bytesToString]; rfl
    | some p =>
      have := run_bytesToString (P := P) w p 0 cap [] (by
        have := run_loadCells_list (P := P) w p [] (fun j v hj => by simp at hj)
        simpa using this)
      exact this
  | cons x l =>
    obtain ⟨b, off, rfl, hb, _⟩ := hc 0 (by simp)
    have := run_convert_bytes_arg (P := P) w src e hs he b off (x :: l).length cap ((x :: l).map Int.ofNat) (by simp) (fun i hi => by
      obtain ⟨b', off', h1, h2, h3⟩ := hc i hi
      simp only [Option.some.injEq, Addr.mk.injEq, and_true] at h1
      obtain ⟨rfl, rfl⟩ := h1
      rw [h3]
      rw [List.getD_eq_getElem?_getD, List.getElem?_map, List.getElem?_eq_getElem hi]
      rfl) dst hd
    rw [this, strB_of]
theorem New.rdB {w w' : World} {e : TypeId} {v : Value} {l : List Nat} (h : New w w' e v (u8s l)) (hl : ∀ x ∈ l, x < 256) : RdB w' v l := ⟨h.rd, hl⟩
theorem New.rdW {w w' : World} {e : TypeId} {v : Value} {l : List Nat} (h : New w w' e v (u32s l)) (hl : ∀ x ∈ l, x < 4294967296) : RdW w' v l := ⟨h.rd, hl⟩
theorem str_beq (a b : List Nat) (ha : ∀ x ∈ a, x < 256) (hb : ∀ x ∈ b, x < 256) : decide (strB a = strB b) = decide (a = b) := by
  by_cases h : a = b
  · simp [h]
  · have : ¬ strB a = strB b := fun e => h (strB_inj a b ha hb e)
    simp [h, this]
theorem strT_beq (a b : List Nat) (ha : ∀ x ∈ a, x < 256) (hb : ∀ x ∈ b, x < 256) : ((strB a).toList == (strB b).toList) = decide (a = b) := by
  rw [ByteArray.toList_eq, ByteArray.toList_eq]
  by_cases h : a = b
  · subst h; simp
  · have h1 : ¬ (strB a).data.toList = (strB b).data.toList := fun e => h (strB_inj a b ha hb (by
      have := Array.ext' e
      unfold strB at this ⊢
      exact congrArg ByteArray.mk this))
    rw [beq_eq_false_iff_ne.2 h1]; simp [h]
end Go.Proofs.Num
