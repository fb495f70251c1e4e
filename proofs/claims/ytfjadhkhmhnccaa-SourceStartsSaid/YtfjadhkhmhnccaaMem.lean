/- Rows of cells in memory: what they hold, and what a store leaves. No program in sight. -/
import Derived.WalkKit
set_option linter.unusedVariables false
namespace Go.Proofs.Num
open Go.RowKit
/-- Block b holds the values f 0, .., f (n - 1) in its first cells, and they may be written. -/
def Arr (w : World) (b n : Nat) (f : Nat → Value) : Prop := ∀ j, j < n → w.cell? ⟨b, j, none⟩ = some (f j) ∧ w.frozen? ⟨b, j, none⟩ = false
theorem Arr.cell {w : World} {b n : Nat} {f : Nat → Value} (h : Arr w b n f) {j : Nat} (hj : j < n) : w.cell? ⟨b, j, none⟩ = some (f j) := (h j hj).1
theorem Arr.free {w : World} {b n : Nat} {f : Nat → Value} (h : Arr w b n f) {j : Nat} (hj : j < n) : w.frozen? ⟨b, j, none⟩ = false := (h j hj).2
theorem Arr.set {w : World} {b n : Nat} {f : Nat → Value} (h : Arr w b n f) {k : Nat} (hk : k < n) (v : Value) : Arr (w.setCell ⟨b, k, none⟩ v) b n (fun j => if j = k then v else f j) := by
  intro j hj
  refine ⟨?_, by simpa using h.free hj⟩
  by_cases e : j = k
  · subst e; simp only [if_true]; exact World.cell?_setCell_same (h := h.cell hj) ..
  · simp only [e, if_false]
    rw [World.cell?_setCell_other (h := by intro q; injection q with q1 q2; omega)]; exact h.cell hj
theorem Arr.other {w : World} {b n : Nat} {f : Nat → Value} (h : Arr w b n f) {a : Addr} (ha : a.block ≠ b) (v : Value) : Arr (w.setCell a v) b n f := by
  intro j hj
  refine ⟨?_, by simpa using h.free hj⟩
  rw [World.cell?_setCell_other (h := by intro e; rw [e] at ha; exact ha rfl)]; exact h.cell hj
theorem Arr.drew {w : World} {b n : Nat} {f : Nat → Value} (h : Arr w b n f) : Arr w.drew b n f := h
theorem Arr.congr {w : World} {b n : Nat} {f g : Nat → Value} (h : Arr w b n f) (hfg : ∀ j, j < n → f j = g j) : Arr w b n g := fun j hj => by rw [← hfg j hj]; exact h j hj
/-- A block that is known whole. -/
theorem Arr.of_block {w : World} {b n : Nat} {f : Nat → Value} {c : Array Value} {t : TypeId} (h : w.heap[b]? = some (.cells c t (0, 0))) (hc : ∀ j, j < n → c[j]? = some (f j)) : Arr w b n f := by
  intro j hj
  constructor
  · simp only [World.cell?, h]; simpa using hc j hj
  · simp [World.frozen?, h]
theorem heap_new (w : World) (o : Obj) {n : Nat} (h : n = w.heap.size) : (w.alloc o).heap[n]? = some o := by
  subst h; show (w.heap.push o)[w.heap.size]? = some o; simp
theorem heap_old (w : World) (o : Obj) {n : Nat} (h : n < w.heap.size) : (w.alloc o).heap[n]? = w.heap[n]? := Below.heap_alloc w o n h
theorem size_alloc (w : World) (o : Obj) : (w.alloc o).heap.size = w.heap.size + 1 := by simp
theorem size_set (w : World) (a : Addr) (v : Value) : (w.setCell a v).heap.size = w.heap.size := by simp [World.setCell]
/-- A callee that leaves all that was there as it was, met in a later world of a call that has done so too. -/
theorem from_below {P : Program} {f : FuncId} {args : Array Value} {W w : World} {r : Ending} (h : Below W.heap.size W w)
    (c : Calls P f args w fun e w' => e = r ∧ Below w.heap.size w w') : Calls P f args w fun e w' => e = r ∧ Below W.heap.size W w' :=
  c.mono fun _ _ ⟨he, hb⟩ => ⟨he, h.trans (hb.mono h.size)⟩
theorem from_same {P : Program} {f : FuncId} {args : Array Value} {W w : World} {r : Ending} (h : Below W.heap.size W w)
    (c : Calls P f args w fun e w' => e = r ∧ w = w') : Calls P f args w fun e w' => e = r ∧ Below W.heap.size W w' :=
  c.mono fun _ _ ⟨he, hb⟩ => ⟨he, hb ▸ h⟩
end Go.Proofs.Num
