/- A new ground segment: effects of makeMap and box in a drawn region. -/
import Derived.Test.YtnklmadmenkdoaaGreatQStnR
import Derived.Carry
set_option linter.unusedVariables false
set_option linter.unusedSimpArgs false
namespace Go.Proofs.YtnklmadmenkdoaaGreat
open Go.RowKit Go.Proofs.Num
theorem eff_mapS {L : Prop} {o : Oper} {a : Act} {D : WP} {K : Act → WP → WP → Prop} {W y : World} {l : List HProp} {t : TypeId} (hl : ∀ B ∈ l, Stable B) (hS : Sts W l y) (ho : o.op = .makeMap t none) (D' : WP) (hD : ∀ g z, Sts W (blkP g (.map #[] 0) :: l) z → D' z) (hD' : ∀ z, D' z → D z)
    (hk : ∀ g, K (a.put o.dst (.map (some g))) D' (fun z => Sts W (blkP g (.map #[] 0) :: l) z)) : effUpon Tryz.prog L o.dst a D K ((execOp a.eval o).run Tryz.prog y) := by
  have h := hS.alloc hl (.map #[] 0)
  refine eff_value (w := y.alloc (.map #[] 0)) (v := .map (some y.heap.size)) D' _ ?_ h (fun z hz => hD _ z hz) hD' (hk _)
  unfold execOp
  simp only [ho]
  simp [Sem.run_bind, run_makeMap, Result.andThen]
theorem eff_boxS {L : Prop} {o : Oper} {a : Act} {D : WP} {K : Act → WP → WP → Prop} {W y : World} {l : List HProp} {t : TypeId} {x : Operand} {vs : Array Value} (hl : ∀ B ∈ l, Stable B) (hS : Sts W l y) (ho : o.op = .box t x) (hx : a.eval x = .agg vs) (hD : ∀ g z, Sts W (blkP g (.cells vs t (0, 0)) :: l) z → D z)
    (hk : ∀ g, K (a.put o.dst (.pointer (some ⟨g, 0, none⟩))) D (fun z => Sts W (blkP g (.cells vs t (0, 0)) :: l) z)) : effUpon Tryz.prog L o.dst a D K ((execOp a.eval o).run Tryz.prog y) := by
  have h := hS.alloc hl (.cells vs t)
  refine eff_value (w := y.alloc (.cells vs t)) (v := .pointer (some ⟨y.heap.size, 0, none⟩)) D _ ?_ h (fun z hz => hD _ z hz) (fun _ h => h) (hk _)
  unfold execOp
  simp only [ho, hx]
  simp [go_sem, Result.andThen]
end Go.Proofs.YtnklmadmenkdoaaGreat
