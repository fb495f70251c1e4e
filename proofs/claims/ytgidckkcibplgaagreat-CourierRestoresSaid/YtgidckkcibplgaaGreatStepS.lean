/- Steps of a walk upon a list of assertions: the store of a struct, of a cell; a result that lies in a cell. -/
import Derived.Test.YtgidckkcibplgaaGreatSepc
import Derived.Test.YtgidckkcibplgaaGreatOrdR
import Derived.Test.YtgidckkcibplgaaGreatProg
import Derived.Laws.IdiomCopy
import Derived.Laws.ResultCell
import Derived.Outline
import Derived.WideShapes
import Derived.WalkSpells
set_option linter.unusedVariables false
set_option linter.unusedSimpArgs false
namespace Go.Proofs.YtgidckkcibplgaaGreat
open Go.RowKit Go.Proofs.Num
def setAll (b : Nat) : Nat → List Value → World → World
  | _, [], w => w
  | k, v :: vs, w => setAll b (k + 1) vs (w.setCell ⟨b, k, none⟩ v)
def putAll : Nat → List Value → Array Value → Array Value
  | _, [], c => c
  | k, v :: vs, c => putAll (k + 1) vs (c.setIfInBounds k v)
theorem Sts.storeAll {W : World} {b : Nat} {t : TypeId} {l : List HProp} (hl : ∀ A ∈ l, Stable A) : ∀ (vs : List Value) (k : Nat) (c : Array Value) (w : World), Sts W (blkP b (.cells c t (0, 0)) :: l) w → Sts W (blkP b (.cells (putAll k vs c) t (0, 0)) :: l) (setAll b k vs w)
  | [], _, _, _, h => h
  | v :: vs, k, c, w, h => Sts.storeAll hl vs (k + 1) _ _ (Sts.store hl h v)
theorem setAll_cells (b : Nat) : ∀ (vs : List Value) (k : Nat) (w : World), setAll b k vs w = w.setCells b k vs
  | [], _, _ => rfl
  | v :: vs, k, w => setAll_cells b vs (k + 1) _
theorem putAll_get : ∀ (vs : List Value) (k : Nat) (c : Array Value) (i : Nat), (putAll k vs c)[i]? = if k ≤ i ∧ i < k + vs.length ∧ i < c.size then vs[i - k]? else c[i]?
  | [], k, c, i => by rw [if_neg (by simp; omega)]; rfl
  | v :: vs, k, c, i => by
    show (putAll (k + 1) vs (c.setIfInBounds k v))[i]? = _
    rw [putAll_get vs (k + 1)]
    simp only [Array.size_setIfInBounds, List.length_cons]
    by_cases h1 : k + 1 ≤ i ∧ i < k + 1 + vs.length ∧ i < c.size
    · rw [if_pos h1, if_pos (by omega), show i - k = (i - (k + 1)) + 1 by omega, List.getElem?_cons_succ]
    · rw [if_neg h1, Array.getElem?_setIfInBounds]
      by_cases h2 : k = i
      · subst h2
        by_cases h3 : k < c.size
        · rw [if_pos rfl, if_pos h3, if_pos (by omega), Nat.sub_self]; rfl
        · rw [if_pos rfl, if_neg h3, if_neg (by omega), Array.getElem?_eq_none (by omega)]
      · rw [if_neg h2, if_neg (by omega)]
theorem putAll_all (vs c : Array Value) (hc : c.size = vs.size) : putAll 0 vs.toList c = vs := by
  apply Array.ext_getElem?
  intro i
  rw [putAll_get]
  by_cases h : i < vs.size
  · rw [if_pos (by simp; omega)]; simp
  · rw [if_neg (by simp; omega), Array.getElem?_eq_none (by omega), Array.getElem?_eq_none (by omega)]
theorem exec_agg {W w : World} {l : List HProp} {b : Nat} {c : Array Value} {t0 : TypeId} {o : Oper} {a : Act} (hS : Sts W (blkP b (.cells c t0 (0, 0)) :: l) w) (hl : ∀ B ∈ l, Stable B) (p v : Operand) (t : TypeId) (ho : o.op = .store t p v) (vs : Array Value)
    (hp : a.eval p = .pointer (some ⟨b, 0, none⟩)) (hv : a.eval v = .agg vs) (hz : ∀ w, (Go.sizeOf t).run Tryz.prog w = .ok vs.size w) (hc : c.size = vs.size) (h1 : vs.toList.all (fun v => v.oneCell') = true) :
    ∃ w', (execOp a.eval o).run Tryz.prog w = .ok .skip w' ∧ Sts W (blkP b (.cells vs t0 (0, 0)) :: l) w' := by
  have hb : w.heap[b]? = some (.cells c t0 (0, 0)) := by obtain ⟨F, hF⟩ := hS.head; exact hF.1
  have hst := run_storeCells_cells (P := Tryz.prog) b 0 vs.toList 0 w (fun j hj => by
      have hj2 : j < c.size := by rw [hc]; simpa using hj
      have h3 := cell_blk hb (Array.getElem?_eq_getElem hj2)
      simp only [Nat.zero_add]
      rw [h3]; rfl) (fun j hj => free_blk hb) (List.all_eq_true.1 h1)
  have hf := Sts.storeAll hl vs.toList 0 _ _ hS
  rw [putAll_all vs c hc, setAll_cells] at hf
  refine ⟨_, ?_, hf⟩
  unfold execOp
  simp only [ho, hp, hv]
  simp [go_sem, Instr.storeAt, storeVar, hz, Value.cells, hst]
theorem wpList_agg {ops : Array Oper} {rest : List Oper} {o : Oper} {a : Act} {Q : Exit → Act → World → Prop} {W w : World} {l : List HProp} {b : Nat} {c : Array Value} {t0 : TypeId}
    (hS : Sts W (blkP b (.cells c t0 (0, 0)) :: l) w) (hl : ∀ B ∈ l, Stable B) (hgd : o.guard = none) (p v : Operand) (t : TypeId) (ho : o.op = .store t p v) (vs : Array Value)
    (hp : a.eval p = .pointer (some ⟨b, 0, none⟩)) (hv : a.eval v = .agg vs) (hz : ∀ w, (Go.sizeOf t).run Tryz.prog w = .ok vs.size w) (hc : c.size = vs.size) (h1 : vs.toList.all (fun v => v.oneCell') = true)
    (h : ∀ w', Sts W (blkP b (.cells vs t0 (0, 0)) :: l) w' → wpList Tryz.prog ops Q rest (a.put o.dst undef) w') : wpList Tryz.prog ops Q (o :: rest) a w := by
  refine wpList_plain hgd fun K hK => ?_
  obtain ⟨w', hr, hf⟩ := exec_agg (o := o) (a := a) hS hl p v t ho vs hp hv hz hc  h1
  unfold Oper.wp
  rw [hr]
  exact hK _ _ (h _ hf)
def cellB : Value → Bool
  | .int _ _ => true
  | .bool _ => true
  | .string _ => true
  | .pointer _ => true
  | .slice _ _ _ => true
  | _ => false
/-- The store of one cell. -/
theorem wpList_cell {ops : Array Oper} {rest : List Oper} {o : Oper} {a : Act} {Q : Exit → Act → World → Prop} {W w : World} {l : List HProp} {b : Nat} {c : Array Value} {t0 : TypeId}
    (hS : Sts W (blkP b (.cells c t0 (0, 0)) :: l) w) (hl : ∀ B ∈ l, Stable B) (hgd : o.guard = none) (p v : Operand) (t : TypeId) (ho : o.op = .store t p v) (j : Nat) (x : Value)
    (hp : a.eval p = .pointer (some ⟨b, j, none⟩)) (hv : a.eval v = x) (hz : ∀ w, (Go.sizeOf t).run Tryz.prog w = .ok 1 w) (hj : j < c.size) (h1 : cellB x = true)
    (h : ∀ w', Sts W (blkP b (.cells (c.setIfInBounds j x) t0 (0, 0)) :: l) w' → wpList Tryz.prog ops Q rest (a.put o.dst undef) w') : wpList Tryz.prog ops Q (o :: rest) a w := by
  refine wpList_plain hgd fun K hK => ?_
  have hb : w.heap[b]? = some (.cells c t0 (0, 0)) := by obtain ⟨F, hF⟩ := hS.head; exact hF.1
  have h3 := cell_blk hb (Array.getElem?_eq_getElem hj)
  have h4 : w.frozen? ⟨b, j, none⟩ = false := free_blk hb
  have hf := Sts.store hl hS (j := j) x
  have hr : (execOp a.eval o).run Tryz.prog w = .ok .skip (w.setCell ⟨b, j, none⟩ x) := by
    unfold execOp
    simp only [ho, hp, hv]
    cases x
    all_goals first
      | (simp [cellB] at h1; done)
      | (simp [go_sem, Instr.storeAt, storeVar, hz, Value.cells, h3, h4, Result.andThen])
  unfold Oper.wp
  rw [hr]
  exact hK _ _ (h _ hf)
/-- The store of a struct in a drawn region. -/
theorem eff_agg {L : Prop} {o : Oper} {a : Act} {K : Act → WP → WP → Prop} {W y : World} {l : List HProp} {b : Nat} {c : Array Value} {t0 : TypeId}
    (hS : Sts W (blkP b (.cells c t0 (0, 0)) :: l) y) (hl : ∀ B ∈ l, Stable B) (p v : Operand) (t : TypeId) (ho : o.op = .store t p v) (vs : Array Value)
    (hp : a.eval p = .pointer (some ⟨b, 0, none⟩)) (hv : a.eval v = .agg vs) (hz : ∀ w, (Go.sizeOf t).run Tryz.prog w = .ok vs.size w) (hc : c.size = vs.size) (h1 : vs.toList.all (fun v => v.oneCell') = true) (D : WP)
    (hD : ∀ z, Sts W (blkP b (.cells vs t0 (0, 0)) :: l) z → D z)
    (hk : K (a.put o.dst undef) D (fun z => Sts W (blkP b (.cells vs t0 (0, 0)) :: l) z)) : effUpon Tryz.prog L o.dst a D K ((execOp a.eval o).run Tryz.prog y) := by
  obtain ⟨w', hr, hf⟩ := exec_agg (o := o) (a := a) hS hl p v t ho vs hp hv hz hc  h1
  exact eff_skip D _ (w := w') hr hf hD (fun _ h => h) hk
set_option maxRecDepth 100000 in
theorem post_cell2 {fn : Func} {R : Ending → World → Prop} {a : Act} {W w : World} {l : List HProp} {b : Nat} {cs : Array Value} {t0 ty : TypeId} {p u : Tmp} (hS : Sts W (blkP b (.cells cs t0 (0, 0)) :: l) w)
    (hfn : fn.results = #[.cell p ty, .tmp u]) (hp : a.tmps.getD p undef = .pointer (some ⟨b, 0, none⟩)) (hdf : a.defers = []) (hld : (loadVar ty ⟨b, 0, none⟩).run Tryz.prog w = .ok (.agg cs) w)
    (x : Value) (hx : a.tmps.getD u undef = x) (hR : R (.returned (.tuple #[.agg cs, x])) w) : bodyPost Tryz.prog fn R .ret a w := by
  have hb : w.heap[b]? = some (.cells cs t0 (0, 0)) := by obtain ⟨F, hF⟩ := hS.head; exact hF.1
  refine bodyPost_ret (v := .tuple #[.agg cs, x]) ?_ hdf hR
  rw [results_cell_tmp hfn, hp, hx]
  show ((asAddr (.pointer (some ⟨b, 0, none⟩))).run Tryz.prog w).andThen _ = _
  rw [show (asAddr (.pointer (some ⟨b, 0, none⟩))).run Tryz.prog w = .ok ⟨b, 0, none⟩ w by simp [asAddr]]
  show ((loadVar ty ⟨b, 0, none⟩).run Tryz.prog w).andThen _ = _
  rw [hld]
  rfl
set_option maxRecDepth 100000 in
theorem post_cell1 {fn : Func} {R : Ending → World → Prop} {a : Act} {W w : World} {l : List HProp} {b : Nat} {cs : Array Value} {t0 ty : TypeId} {p : Tmp} (hS : Sts W (blkP b (.cells cs t0 (0, 0)) :: l) w)
    (hfn : fn.results = #[.cell p ty]) (hp : a.tmps.getD p undef = .pointer (some ⟨b, 0, none⟩)) (hdf : a.defers = []) (hld : (loadVar ty ⟨b, 0, none⟩).run Tryz.prog w = .ok (.agg cs) w)
    (hR : R (.returned (.agg cs)) w) : bodyPost Tryz.prog fn R .ret a w := by
  have hb : w.heap[b]? = some (.cells cs t0 (0, 0)) := by obtain ⟨F, hF⟩ := hS.head; exact hF.1
  refine bodyPost_ret (v := .agg cs) ?_ hdf hR
  have h1 : (results fn a.tmps).run Tryz.prog w = ((asAddr (a.tmps.getD p undef)).run Tryz.prog w).andThen fun a w₁ => (loadVar ty a).run Tryz.prog w₁ := by
    simp only [results, hfn]
    simp [Sem.run_bind, Result.andThen]
  rw [h1, hp]
  show ((asAddr (.pointer (some ⟨b, 0, none⟩))).run Tryz.prog w).andThen _ = _
  rw [show (asAddr (.pointer (some ⟨b, 0, none⟩))).run Tryz.prog w = .ok ⟨b, 0, none⟩ w by simp [asAddr]]
  show (loadVar ty ⟨b, 0, none⟩).run Tryz.prog w = _
  exact hld
end Go.Proofs.YtgidckkcibplgaaGreat
