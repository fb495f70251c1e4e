/- Making rows and blocks in a drawn region; a call and a read there. -/
import Derived.Test.YtfjadhkhmhnccaaOrdT
import Derived.Test.YtfjadhkhmhnccaaWalkS
import Derived.Test.YtfjadhkhmhnccaaCmpB
import Derived.OwnWalk
set_option linter.unusedVariables false
set_option linter.unusedSimpArgs false
namespace Go.Proofs.Ytfjadhkhmhnccaa
open Go.RowKit Go.Proofs.Num
theorem own_atC {w : World} {e : TypeId} {g n cap B : Nat} {xs : List Value} (h : w.ownsRow 0 e 1 (.slice (some ⟨g, 0, none⟩) n cap) n xs) (hB : B ≤ g) : w.ownsRow B e 1 (.slice (some ⟨g, 0, none⟩) n cap) n xs := by
  obtain ⟨h1, h2⟩ := h
  refine ⟨h1, ?_⟩
  rcases h2 with ⟨h2, _⟩ | ⟨g', cap', cur, hv, _, r⟩
  · cases h2
  · have hg : g = g' := by injection hv with hv; injection hv with hv; injection hv
    exact Or.inr ⟨g', cap', cur, hv, by omega, r⟩
theorem infoU8C : (Try.prog.info? 5).map (fun i => (i.zero, i.size, i.bytes)) = some (some (.int .u8 0), 1, 1) := by kernel_rfl
theorem infoBoC : (Try.prog.info? 4).map (fun i => (i.zero, i.size, i.bytes)) = some (some (.bool false), 1, 1) := by kernel_rfl
theorem Sts.made {W w w1 : World} {l : List HProp} {e : TypeId} {n : Nat} {xs : List Value} (hl : ∀ B ∈ l, Stable B) (hS : Sts W l w) (hn : xs.length = n) (hown : w1.ownsRow 0 e 1 (.slice (some ⟨w.heap.size, 0, none⟩) n n) n xs) (hgr : w.grownBy w1 none) :
    Sts W (rowP e 1 (.slice (some ⟨w.heap.size, 0, none⟩) n n) n xs :: l) w1 := by
  have h := Sts.new hl hS (e := e) (v := .slice (some ⟨w.heap.size, 0, none⟩) n n) (ys := xs) ⟨by rw [hn]; exact own_atC hown (Nat.le_refl _), (Below.refl _ _).grown hgr (Nat.le_refl _) (by intro k hk; simp at hk)⟩
  rw [hn] at h
  exact h
theorem eff_makeB {L : Prop} {o : Oper} {a : Act} {D : WP} {K : Act → WP → WP → Prop} {W y : World} {l : List HProp} (hl : ∀ B ∈ l, Stable B) (hS : Sts W l y) (x x' : Operand) (ho : o.op = .makeSlice 50 x x') (n : Nat) (hn : n ≤ 100000) (hx : a.eval x = .int .i64 (n : Int)) (hx' : a.eval x' = .int .i64 (n : Int)) (hD : ∀ z, D z)
    (hk : ∀ g, K (a.put o.dst (.slice (some ⟨g, 0, none⟩) n n)) D (fun z => Sts W (rowP 4 1 (.slice (some ⟨g, 0, none⟩) n n) n (bools (List.replicate n false)) :: l) z)) : effUpon Try.prog L o.dst a D K ((execOp a.eval o).run Try.prog y) := by
  obtain ⟨i0, hi, hz0, hz1, hz2⟩ := info_parts infoBoC
  obtain ⟨w', hrun, r1, r2⟩ := run_make_full (P := Try.prog) y 0 50 4 i0 (.bool false) 1 Try.underlying50 hi hz0 hz1 .i64 .i64 n (by rw [hz2]; omega) (by unfold maxLen; omega) (Nat.zero_le _)
  have e : (madeCells (Value.bool false).cells (n * 1)).toList = bools (List.replicate n false) := by
    show (madeCells #[Value.bool false] (n * 1)).toList = _
    rw [toList_madeCells_one]; simp [bools]
  rw [e] at r1
  refine eff_value (w := w') (v := .slice (some ⟨y.heap.size, 0, none⟩) n n) D _ ?_ (Sts.made hl hS (by simp [bools]) r1 r2) (fun z _ => hD z) (fun _ h => h) (hk _)
  unfold execOp
  simp only [ho, hx, hx']
  simp [go_sem, hrun, Result.andThen]
theorem eff_makeU {L : Prop} {o : Oper} {a : Act} {D : WP} {K : Act → WP → WP → Prop} {W y : World} {l : List HProp} (hl : ∀ B ∈ l, Stable B) (hS : Sts W l y) (x x' : Operand) (ho : o.op = .makeSlice 24 x x') (n : Nat) (hn : n ≤ 100000) (hx : a.eval x = .int .i64 (n : Int)) (hx' : a.eval x' = .int .i64 (n : Int)) (hD : ∀ z, D z)
    (hk : ∀ g, K (a.put o.dst (.slice (some ⟨g, 0, none⟩) n n)) D (fun z => Sts W (rowP 5 1 (.slice (some ⟨g, 0, none⟩) n n) n (u8s (List.replicate n 0)) :: l) z)) : effUpon Try.prog L o.dst a D K ((execOp a.eval o).run Try.prog y) := by
  obtain ⟨i0, hi, hz0, hz1, hz2⟩ := info_parts infoU8C
  obtain ⟨w', hrun, r1, r2⟩ := run_make_full (P := Try.prog) y 0 24 5 i0 (.int .u8 0) 1 Try.underlying24 hi hz0 hz1 .i64 .i64 n (by rw [hz2]; omega) (by unfold maxLen; omega) (Nat.zero_le _)
  have e : (madeCells (Value.int .u8 0).cells (n * 1)).toList = u8s (List.replicate n 0) := by
    show (madeCells #[Value.int .u8 0] (n * 1)).toList = _
    rw [toList_madeCells_one]; simp [u8s]
  rw [e] at r1
  refine eff_value (w := w') (v := .slice (some ⟨y.heap.size, 0, none⟩) n n) D _ ?_ (Sts.made hl hS (by simp [u8s]) r1 r2) (fun z _ => hD z) (fun _ h => h) (hk _)
  unfold execOp
  simp only [ho, hx, hx']
  simp [go_sem, hrun, Result.andThen]
set_option maxRecDepth 100000 in
theorem eff_allocR {L : Prop} {o : Oper} {a : Act} {D : WP} {K : Act → WP → WP → Prop} {W y : World} {l : List HProp} (hl : ∀ B ∈ l, Stable B) (hS : Sts W l y) (ho : o.op = .alloc 53) (hD : ∀ z, D z)
    (hk : ∀ g, K (a.put o.dst (.pointer (some ⟨g, 0, none⟩))) D (fun z => Sts W (blkP g (.cells #[.bool false, .bool false, .bool false, .slice none 0 0, .slice none 0 0] 53 (0, 0)) :: l) z)) : effUpon Try.prog L o.dst a D K ((execOp a.eval o).run Try.prog y) := by
  have h := hS.alloc hl (.cells #[.bool false, .bool false, .bool false, .slice none 0 0, .slice none 0 0] 53)
  refine eff_value (w := y.alloc (.cells #[.bool false, .bool false, .bool false, .slice none 0 0, .slice none 0 0] 53)) (v := .pointer (some ⟨y.heap.size, 0, none⟩)) D _ ?_ h (fun z _ => hD z) (fun _ h => h) (hk _)
  unfold execOp
  simp only [ho]
  kernel_rfl
set_option maxRecDepth 100000 in
theorem sizeRcvC : ∀ w, (Go.sizeOf 53).run Try.prog w = .ok 5 w := fun w => by first | rfl | simp [go_sem] | kernel_rfl
/-- The store of a struct; nothing is read. -/
theorem eff_aggT {L : Prop} {o : Oper} {a : Act} {K : Act → WP → WP → Prop} {W y : World} {l : List HProp} {b : Nat} {c : Array Value} {t0 : TypeId}
    (hS : Sts W (blkP b (.cells c t0 (0, 0)) :: l) y) (hl : ∀ B ∈ l, Stable B) (p v : Operand) (t : TypeId) (ho : o.op = .store t p v) (vs : Array Value)
    (hp : a.eval p = .pointer (some ⟨b, 0, none⟩)) (hv : a.eval v = .agg vs) (hz : ∀ w, (Go.sizeOf t).run Try.prog w = .ok vs.size w) (hc : c.size = vs.size) (h1 : vs.toList.all (fun v => v.oneCell') = true) (D : WP)
    (hD : ∀ z, Sts W (blkP b (.cells vs t0 (0, 0)) :: l) z → D z)
    (hk : K (a.put o.dst undef) D (fun z => Sts W (blkP b (.cells vs t0 (0, 0)) :: l) z)) : effUpon Try.prog L o.dst a D K ((execOp a.eval o).run Try.prog y) := eff_agg hS hl p v t ho vs hp hv hz hc h1 D hD hk
theorem wpList_ldC {ops : Array Oper} {rest : List Oper} {o : Oper} {a : Act} {Q : Exit → Act → World → Prop} {w : World} {b j : Nat} (hgd : o.guard = none) (x : Operand) (t : TypeId) (ho : o.op = .load t x) (hx : a.eval x = .pointer (some ⟨b, j, none⟩)) (v : Value)
    (hld : (loadVar t ⟨b, j, none⟩).run Try.prog w = .ok v w) (h : wpList Try.prog ops Q rest (a.put o.dst v) w) : wpList Try.prog ops Q (o :: rest) a w := by
  refine wpList_plain hgd fun K hK => ?_
  have hr : (execOp a.eval o).run Try.prog w = .ok (.value v) w := by
    unfold execOp
    simp only [ho, hx]
    have h1 : (Instr.loadAt t (.pointer (some ⟨b, j, none⟩))).run Try.prog w = .ok v w := by
      simp only [Instr.loadAt, Instr.sureAddr]
      simp [Sem.run_bind, asAddr, hld, Result.andThen]
    simp [Sem.run_bind, h1, Result.andThen]
  unfold Oper.wp
  rw [hr]
  exact hK _ _ h
section
variable {W w : World} {A B C D E F : HProp}
theorem Sts.rot (h : Sts W [A, B, C, D] w) : Sts W [D, A, B, C] w := h.perm (List.perm_append_singleton D [A, B, C])
theorem Sts.rot' (h : Sts W [D, A, B, C] w) : Sts W [A, B, C, D] w := h.perm (List.perm_append_singleton D [A, B, C]).symm
/-- Behind the unit's block and its data. -/
theorem Sts.back6 (h : Sts W [E, D, F, A, B, C] w) : Sts W [A, B, C, D] w := Sts.rot' (Sts.tail (Sts.swap (Sts.tail h)))
theorem Sts.fore6 (h : Sts W [E, D, F, A, B, C] w) : Sts W [A, B, C, E, D, F] w := h.perm (List.perm_append_comm (l₁ := [E, D, F]) (l₂ := [A, B, C]))
theorem Sts.back6' (h : Sts W [A, B, C, E, D, F] w) : Sts W [A, B, C, D] w := Sts.back6 (h.perm (List.perm_append_comm (l₁ := [A, B, C]) (l₂ := [E, D, F])))
/-- Behind the answer's row. -/
theorem Sts.ans5 (h : Sts W [E, A, B, C, D] w) : Sts W [D, E, A, B, C] w := h.perm (List.perm_append_singleton D [E, A, B, C])
theorem Sts.ans5' (h : Sts W [D, E, A, B, C] w) : Sts W [A, B, C, D] w := Sts.rot' (Sts.tail (Sts.swap h))
end
/-- What is shown once of several ends that differ in block numbers alone. -/
theorem share3 {G : Nat → Nat → Nat → World → Prop} {goal : Prop} (S : Nat → Nat → Nat → World → Prop) (main : (∀ g1 g2 g3 z, S g1 g2 g3 z → G g1 g2 g3 z) → goal) (key : ∀ g1 g2 g3 z, S g1 g2 g3 z → G g1 g2 g3 z) : goal := main key
end Go.Proofs.Ytfjadhkhmhnccaa
