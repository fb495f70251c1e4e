/- Steps for the archive: stores into rows, equal bytes, entries made. -/
import Derived.Test.YtnklmadmenkdoaaGreatQArcB
import Derived.Test.YtnklmadmenkdoaaGreatQScbJ
import Derived.Test.YtnklmadmenkdoaaGreatQSdpTk
set_option linter.unusedVariables false
set_option linter.unusedSimpArgs false
namespace Go.Proofs.YtnklmadmenkdoaaGreat
open Go.RowKit Go.Shelf Go.Proofs.Num
set_option maxRecDepth 100000 in
theorem cBEqualAny (w : World) (v1 v2 : Value) (m1 m2 : List Nat) (h1 : RdB w v1 m1) (h2 : RdB w v2 m2) : Calls Tryz.prog 101 #[v1, v2] w fun e w' => (∃ b, e = .returned (.bool b)) ∧ w = w' := by
  have c1 := h1.str (P := Tryz.prog) 35 9 5 Tryz.underlying35 Tryz.underlying5 Tryz.underlying9
  have c2 := h2.str (P := Tryz.prog) 35 9 5 Tryz.underlying35 Tryz.underlying5 Tryz.underlying9
  clear h1 h2
  go_enter Tryz.func101, Tryz.ntmps101
  go_wp2_with fail
  go_ret
  exact ⟨⟨_, rfl⟩, rfl⟩
section
variable {W w : World} {l : List HProp} {e : TypeId} {s g n cap : Nat} {xs : List Value}
theorem Sts.rowStoreC (hl : ∀ A ∈ l, Stable A) (h : Sts W (rowP e s (.slice (some ⟨g, 0, none⟩) n cap) n xs :: l) w) (i : Nat) (v : Value) :
    Sts W (rowP e s (.slice (some ⟨g, 0, none⟩) n cap) n (xs.set i v) :: l) (w.setCell ⟨g, i, none⟩ v) := by
  obtain ⟨F, ⟨F1, F2, ⟨a, hF1⟩, r, hd, hF⟩, hb, hn⟩ := h
  have hg : ∀ k, F1 k ↔ k = g := fun k => by rw [hF1 k]; simp [Value.ownBlock]; exact eq_comm
  have hk : Keep (fun k => k = g) w (w.setCell ⟨g, i, none⟩ v) := (Keep.refl (fun k => k = g) w).setCell (p := ⟨g, i, none⟩) (fun _ => rfl) v
  refine ⟨F, ⟨F1, F2, ⟨?_, hF1⟩, (stars_stable hl).keep r hk (fun k h2 h1 => hd k ((hg k).2 h1) h2), hd, hF⟩, ?_, hn⟩
  · have := (a.stored i v).1; simpa using this
  · exact hb.setCell (hn g ((hF g).2 (Or.inl ((hg g).2 rfl)))) v
theorem rowCellC (h : Sts W (rowP e s (.slice (some ⟨g, 0, none⟩) n cap) n xs :: l) w) (i : Nat) (v : Value) (hv : xs[i]? = some v) : w.cell? ⟨g, i, none⟩ = some v := by
  have ho := Sts.rowOwnS' h
  rw [ho.cellAt i (by have := ho.1; have := (List.getElem?_eq_some_iff.1 hv).1; omega), hv]
theorem effS_rowC {L : Prop} {o : Oper} {a : Act} {D : WP} {K : Act → WP → WP → Prop} (hL : L) (hS : Sts W (rowP e s (.slice (some ⟨g, 0, none⟩) n cap) n xs :: l) w) (hl : ∀ B ∈ l, Stable B) (p v : Operand) (t : TypeId) (ho : o.op = .store t p v) (j : Nat) (x x0 : Value)
    (hp : a.eval p = .pointer (some ⟨g, j, none⟩)) (hv : a.eval v = x) (hz : ∀ w, (Go.sizeOf t).run Tryz.prog w = .ok 1 w) (hj : xs[j]? = some x0) (h1 : cellBS x = true) (S' : WP) (h : ∀ w', Sts W (rowP e s (.slice (some ⟨g, 0, none⟩) n cap) n (xs.set j x) :: l) w' → S' w')
    (hk : K (a.put o.dst undef) (fun _ => True) S') : effUpon Tryz.prog L o.dst a D K ((execOp a.eval o).run Tryz.prog w) := by
  have h3 := rowCellC hS j x0 hj
  have h4 : w.frozen? ⟨g, j, none⟩ = false := (Sts.rowOwnS' hS).frozenAt j
  have h2 : (execOp a.eval o).run Tryz.prog w = .ok .skip (w.setCell ⟨g, j, none⟩ x) := by
    unfold execOp
    simp only [ho, hp, hv]
    cases x
    all_goals first
      | (simp [cellBS] at h1; done)
      | (simp [go_sem, Instr.storeAt, storeVar, hz, Value.cells, h3, h4, Result.andThen])
  exact effS_skip (fun _ => True) S' hL h2 (h _ (Sts.rowStoreC hl hS j x)) (fun _ _ => trivial) hk
set_option maxRecDepth 100000 in
theorem eff_allocE {L : Prop} {o : Oper} {a : Act} {D : WP} {K : Act → WP → WP → Prop} (hl : ∀ B ∈ l, Stable B) (hS : Sts W l w) (ho : o.op = .alloc 192) (hD : ∀ z g, Sts W (blkP g (.cells #[.int .i64 0, .int .i64 0, .int .i64 0, .int .i64 0, .slice none 0 0] 192 (0, 0)) :: l) z → D z)
    (hk : ∀ g, K (a.put o.dst (.pointer (some ⟨g, 0, none⟩))) D (fun z => Sts W (blkP g (.cells #[.int .i64 0, .int .i64 0, .int .i64 0, .int .i64 0, .slice none 0 0] 192 (0, 0)) :: l) z)) : effUpon Tryz.prog L o.dst a D K ((execOp a.eval o).run Tryz.prog w) := by
  have h := hS.alloc hl (.cells #[.int .i64 0, .int .i64 0, .int .i64 0, .int .i64 0, .slice none 0 0] 192)
  refine eff_value (w := w.alloc (.cells #[.int .i64 0, .int .i64 0, .int .i64 0, .int .i64 0, .slice none 0 0] 192)) (v := .pointer (some ⟨w.heap.size, 0, none⟩)) D _ ?_ h (fun z hz => hD z _ hz) (fun _ h => h) (hk _)
  unfold execOp
  simp only [ho]
  kernel_rfl
theorem infoEnt : (Tryz.prog.info? 192).map (·.size) = some 5 := by kernel_rfl
theorem ldEnt {b : Nat} {cs : Array Value} (hs : cs.size = 5) (h : Sts W (blkP b (.cells cs 192 (0, 0)) :: l) w) : (loadVar 192 ⟨b, 0, none⟩).run Tryz.prog w = .ok (.agg cs) w := by
  have hb : w.heap[b]? = some (.cells cs 192 (0, 0)) := by obtain ⟨F, hF⟩ := h.head; exact hF.1
  exact run_loadVar_row (P := Tryz.prog) w b 192 192 cs (0, 0) _ hb Tryz.underlying192 rfl (by rw [infoEnt, hs])
end
end Go.Proofs.YtnklmadmenkdoaaGreat
