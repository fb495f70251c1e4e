/- The store of a struct of many cells in one step. -/
import Derived.Test.YtfjadhkhmhnccaaSrcSml
import Derived.Laws.IdiomCopy
set_option linter.unusedVariables false
set_option linter.unusedSimpArgs false
namespace Go.Proofs.Ytfjadhkhmhnccaa
open Go.RowKit Go.Proofs.Num
theorem setAll_eq (b : Nat) : ∀ (vs : List Value) (k : Nat) (w : World), setAll b k vs w = w.setCells b k vs
  | [], _, _ => rfl
  | v :: vs, k, w => setAll_eq b vs (k + 1) _
theorem wpList_store_agg {ops : Array Oper} {rest : List Oper} {o : Oper} {a : Act} {Q : Exit → Act → World → Prop} {W w : World} {l : List HProp} {b : Nat} {c : Array Value} {t0 : TypeId}
    (hS : Sts W (blkP b (.cells c t0 (0, 0)) :: l) w) (hl : ∀ B ∈ l, Stable B) (hgd : o.guard = none) (p v : Operand) (t : TypeId) (ho : o.op = .store t p v) (vs : Array Value)
    (hp : a.eval p = .pointer (some ⟨b, 0, none⟩)) (hv : a.eval v = .agg vs) (hz : ∀ w, (Go.sizeOf t).run Try.prog w = .ok vs.size w) (hc : c.size = vs.size) (h1 : ∀ v ∈ vs.toList, v.oneCell' = true) (hput : putAll 0 vs.toList c = vs)
    (h : ∀ w', Sts W (blkP b (.cells vs t0 (0, 0)) :: l) w' → wpList Try.prog ops Q rest (a.put o.dst undef) w') : wpList Try.prog ops Q (o :: rest) a w := by
  refine wpList_plain hgd fun K hK => ?_
  have hb : w.heap[b]? = some (.cells c t0 (0, 0)) := by obtain ⟨F, hF⟩ := hS.head; exact hF.1
  have hst := run_storeCells_cells (P := Try.prog) b 0 vs.toList 0 w (fun j hj => by
      have hj2 : j < c.size := by rw [hc]; simpa using hj
      have h3 := cell_blk hb (Array.getElem?_eq_getElem hj2)
      simp only [Nat.zero_add]
      rw [h3]; rfl) (fun j hj => free_blk hb) h1
  have hf := Sts.storeAll hl vs.toList 0 _ _ hS
  rw [hput, setAll_eq] at hf
  unfold Oper.wp execOp
  simp only [ho, hp, hv]
  simp [go_sem, Instr.storeAt, storeVar, hz, Value.cells, hst]
  exact hK _ _ (h _ hf)
end Go.Proofs.Ytfjadhkhmhnccaa
