/- The station's parts when they are new: the contracts of the constructors. A file store without files. A file entity without transactions. Steps of a walk upon a list of assertions: the store of a struct, of a cell; results that lie in a cell. -/
import Derived.Test.YtgidckkcibplgaaGreatProg
import Derived.Test.YtgidckkcibplgaaGreatStepS
import Derived.WalkKit
import Derived.Carry
import Derived.BigQuiet
import Derived.Laws.IdiomRangeMap
import Derived.Test.YtgidckkcibplgaaGreatOrdR
import Derived.Laws.IdiomCopy
import Derived.Laws.ResultCell
set_option linter.unusedVariables false
set_option linter.unusedSimpArgs false
set_option linter.unusedSectionVars false
namespace Go.Proofs.YtgidckkcibplgaaGreat
open Go.RowKit Go.Proofs.Num
theorem exec_ldS {o : Oper} {a : Act} {w : World} {b j : Nat} (x : Operand) (t : TypeId) (ho : o.op = .load t x) (hx : a.eval x = .pointer (some ⟨b, j, none⟩)) {v : Value}
    (hld : (loadVar t ⟨b, j, none⟩).run Tryz.prog w = .ok v w) : (execOp a.eval o).run Tryz.prog w = .ok (.value v) w := by
  unfold execOp
  simp only [ho, hx]
  have h1 : (Instr.loadAt t (.pointer (some ⟨b, j, none⟩))).run Tryz.prog w = .ok v w := by
    simp only [Instr.loadAt, Instr.sureAddr]
    simp [Sem.run_bind, asAddr, hld, Result.andThen]
  simp [Sem.run_bind, h1, Result.andThen]
theorem wpList_ldS {ops : Array Oper} {rest : List Oper} {o : Oper} {a : Act} {Q : Exit → Act → World → Prop} {w : World} {b j : Nat} (hgd : o.guard = none) (x : Operand) (t : TypeId) (ho : o.op = .load t x) (hx : a.eval x = .pointer (some ⟨b, j, none⟩)) (v : Value)
    (hld : (loadVar t ⟨b, j, none⟩).run Tryz.prog w = .ok v w) (h : wpList Tryz.prog ops Q rest (a.put o.dst v) w) : wpList Tryz.prog ops Q (o :: rest) a w := by
  refine wpList_plain hgd fun K hK => ?_
  have hr : (execOp a.eval o).run Tryz.prog w = .ok (.value v) w := by
    unfold execOp
    simp only [ho, hx]
    have h1 : (Instr.loadAt t (.pointer (some ⟨b, j, none⟩))).run Tryz.prog w = .ok v w := by
      simp only [Instr.loadAt, Instr.sureAddr]
      simp [Sem.run_bind, asAddr, hld, Result.andThen]
    simp [Sem.run_bind, h1, Result.andThen]
  unfold Oper.wp
  rw [hr]
  exact hK _ _ h
end Go.Proofs.YtgidckkcibplgaaGreat
namespace Go.Proofs.YtgidckkcibplgaaGreat
open Go.RowKit Go.Proofs.Num
theorem run_next_empty {P : Program} (w : World) (ty : TypeId) (bm : Nat) (hb : w.heap[bm]? = some (.map #[] 0)) :
    (Instr.next (.pointer (some ⟨w.heap.size, 0, none⟩)) false ty).run P (w.alloc (.mapIter (some bm) 0 #[] 0)) = .ok (.tuple #[.bool false]) (w.alloc (.mapIter (some bm) 0 #[] 0)) := by
  rcases run_next_map (P := P) w ty bm 0 0 #[] #[] 0 hb (by simp) (Nat.le_refl _) with ⟨-, h⟩ | ⟨e, he, -⟩
  · exact h
  · simp [leftOf] at he
section
variable {W w : World} {l : List HProp} (hl : ∀ B ∈ l, Stable B)
include hl
set_option maxRecDepth 100000 in
theorem cFilNew (hs : Sts W l w) (a b : Int) (h1 : 0 ≤ a ∧ a ≤ 256) (h2 : 0 ≤ b ∧ b ≤ 2147483648) : Calls Tryz.prog 11 #[.int .i64 a, .int .i64 b] w fun e w' => ∃ q m, e = .returned (.pointer (some ⟨q, 0, none⟩)) ∧ Sts W (blkP q (.cells #[.int .i64 a, .int .i64 b, .map (some m)] 74 (0, 0)) :: blkP m (.map #[] 0) :: l) w' := by
  have H0 := hid (hs.alloc hl (.map #[] 0))
  have H1 := hid (H0.out.alloc (stabC (blkP_stable _ _) hl) (.cells #[.int .i64 a, .int .i64 b, .map (some w.heap.size)] 74))
  have n1 : max a 0 = a := by omega
  have n2 : max b 0 = b := by omega
  have m1 : min a 256 = a := by omega
  have m2 : min b 2147483648 = b := by omega
  have hmm := @run_makeMap Tryz.prog
  clear hs h1 h2
  go_enter Tryz.func11, Tryz.ntmps11
  go_wp2_with fail
  go_ret
  exact ⟨_, _, rfl, by simpa using H1.out⟩
omit hl in
set_option maxRecDepth 100000 in
theorem cFilUsable (q m : Nat) (a b : Int) (hs : Sts W (blkP q (.cells #[.int .i64 a, .int .i64 b, .map (some m)] 74 (0, 0)) :: l) w) : Calls Tryz.prog 50 #[.pointer (some ⟨q, 0, none⟩)] w fun e w' => e = .returned (.bool true) ∧ w = w' := by
  have k2 := (Sts.boxCell hs 2 _ rfl).1
  clear hs
  have qm : ∀ w, (binOp .neq 72 (.map (some m)) (.map none)).run Tryz.prog w = .ok (.bool true) w := fun _ => by first | rfl | kernel_rfl
  go_enter Tryz.func50, Tryz.ntmps50
  go_wp2_with fail
  go_ret
  exact ⟨rfl, rfl⟩
set_option maxRecDepth 100000 in
set_option maxHeartbeats 2000000 in
theorem cFilClone (q m : Nat) (a b : Int) (hs : Sts W (blkP q (.cells #[.int .i64 a, .int .i64 b, .map (some m)] 74 (0, 0)) :: blkP m (.map #[] 0) :: l) w) (h1 : 0 ≤ a ∧ a ≤ 256) (h2 : 0 ≤ b ∧ b ≤ 2147483648) : Calls Tryz.prog 54 #[.pointer (some ⟨q, 0, none⟩)] w fun e w' => ∃ q', e = .returned (.pointer (some ⟨q', 0, none⟩)) ∧ Sts W (blkP q (.cells #[.int .i64 a, .int .i64 b, .map (some m)] 74 (0, 0)) :: blkP m (.map #[] 0) :: l) w' := by
  have HS := hid hs
  have HL := hid (stabC (blkP_stable q (.cells #[.int .i64 a, .int .i64 b, .map (some m)] 74 (0, 0))) (stabC (blkP_stable m (.map #[] 0)) hl))
  have k0 := (Sts.boxCell hs 0 _ rfl).1
  have k1 := (Sts.boxCell hs 1 _ rfl).1
  have k2 := (Sts.boxCell hs 2 _ rfl).1
  clear hs hl
  go_enter Tryz.func54, Tryz.ntmps54
  go_wp2_with (first | (go_at_call 50; refine (cFilUsable q m a b HS.out).mono ?_; rintro e w2 ⟨rfl, rfl⟩))
  refine wp_region_ord (.pure 0 (.pure 1 (.pure 2 (.pure 3 (.pure 4 (.pure 5 (.pure 6 (.pure 7 (.eff 8 (.pure 9 .nil)))))))))) (fun y => y.cell? ⟨q, 0, none⟩ = some (.int .i64 a) ∧ y.cell? ⟨q, 1, none⟩ = some (.int .i64 b)) (fun y => Sts W (blkP q (.cells #[.int .i64 a, .int .i64 b, .map (some m)] 74 (0, 0)) :: blkP m (.map #[] 0) :: l) y) (by kernel_rfl) (by kernel_rfl) (HS.out.drew HL.out) (fun y hy => ⟨(Sts.boxCell hy 0 _ rfl).1, (Sts.boxCell hy 1 _ rfl).1⟩) ?_
  iterate 8
    (apply ord_pure (ho := rfl)
     · go_simp
     · intro x hx; obtain ⟨k0, k1⟩ := hx; go_simp; rfl
     apply ord_norm
     · go_simp; rfl)
  apply ord_eff (ho := rfl)
  · go_simp
  intro y hy
  refine eff_call (f := 11) (by go_simp) (cFilNew HL.out hy a b h1 h2) ?_
  rintro e w3 ⟨q2, m2, rfl, h3⟩
  refine ⟨_, rfl, (fun y => y.cell? ⟨q, 0, none⟩ = some (.int .i64 a) ∧ y.cell? ⟨q, 1, none⟩ = some (.int .i64 b)), (fun y => Sts W (blkP q2 (.cells #[.int .i64 a, .int .i64 b, .map (some m2)] 74 (0, 0)) :: blkP m2 (.map #[] 0) :: blkP q (.cells #[.int .i64 a, .int .i64 b, .map (some m)] 74 (0, 0)) :: blkP m (.map #[] 0) :: l) y), h3, (fun y hy => ⟨(Sts.boxCell hy.tail.tail 0 _ rfl).1, (Sts.boxCell hy.tail.tail 1 _ rfl).1⟩), (fun _ h => h), ?_⟩
  clear h3 hy y
  apply ord_norm
  · go_simp; rfl
  iterate 1
    (apply ord_pure (ho := rfl)
     · go_simp
     · intro x hx; go_simp; rfl
     apply ord_norm
     · go_simp; rfl)
  refine ord_nil fun z hz => ?_
  have HZ := hid hz.tail.tail
  have k2 : z.cell? ⟨q, 2, none⟩ = some (.map (some m)) := (Sts.boxCell HZ.out 2 _ rfl).1
  have hm : z.heap[m]? = some (.map #[] 0) := by obtain ⟨F, hF⟩ := HZ.out.tail.head; exact hF.1
  clear hz
  have hr := run_range_map (P := Tryz.prog) z 72 9 49 m #[] 0 Tryz.underlying72 hm
  have hn := fun ty => run_next_empty (P := Tryz.prog) z ty m hm
  have HE := hid (Sts.box HL.out HZ.out (.mapIter (some m) 0 #[] 0))
  clear hm
  go_wp2_with fail
  go_loopw [4] (fun _ wr => wr = z.alloc (.mapIter (some m) 0 #[] 0)) (fun _ _ => 0)
  case atStart => rfl
  case round =>
    obtain rfl := hrel
    go_wp2_with fail
    go_ret
    exact ⟨_, rfl, HE.out⟩
end
end Go.Proofs.YtgidckkcibplgaaGreat
namespace Go.Proofs.YtgidckkcibplgaaGreat
open Go.RowKit Go.Proofs.Num
set_option maxRecDepth 100000 in
theorem infoCfg : (Tryz.prog.info? 23).map (·.size) = some 3 := by kernel_rfl
theorem ldCfg {W w : World} {l : List HProp} {b : Nat} {x y z : Value} (h : Sts W (blkP b (.cells #[x, y, z] 23 (0, 0)) :: l) w) : (loadVar 23 ⟨b, 0, none⟩).run Tryz.prog w = .ok (.agg #[x, y, z]) w := by
  have hb : w.heap[b]? = some (.cells #[x, y, z] 23 (0, 0)) := by obtain ⟨F, hF⟩ := h.head; exact hF.1
  exact run_loadVar_row (P := Tryz.prog) w b 23 23 #[x, y, z] (0, 0) _ hb Tryz.underlying23 rfl (by rw [infoCfg]; rfl)
section
variable {W w : World} {l : List HProp} (hl : ∀ B ∈ l, Stable B)
include hl
set_option maxRecDepth 100000 in
set_option maxHeartbeats 2000000 in
theorem cCouNew (self chunk to re : Int) (q m : Nat) (a b : Int) (hs : Sts W (blkP q (.cells #[.int .i64 a, .int .i64 b, .map (some m)] 74 (0, 0)) :: blkP m (.map #[] 0) :: l) w) (h1 : 0 ≤ a ∧ a ≤ 256) (h2 : 0 ≤ b ∧ b ≤ 2147483648)
    (h3 : 0 ≤ self ∧ self ≤ 15) (h4 : 1 ≤ chunk ∧ chunk ≤ 512) (h5 : 1 ≤ to ∧ to ≤ 1048576) (h6 : 0 ≤ re ∧ re ≤ 255) :
    Calls Tryz.prog 19 #[.int .i64 self, .pointer (some ⟨q, 0, none⟩), .agg #[.int .i64 chunk, .int .i64 to, .int .i64 re]] w fun e w' => ∃ c m1 m2 m3, e = .returned (.tuple #[.pointer (some ⟨c, 0, none⟩), .int .i64 0]) ∧
      Sts W (blkP c (.cells #[.bool true, .int .i64 self, .pointer (some ⟨q, 0, none⟩), .int .i64 chunk, .int .i64 to, .int .i64 re, .int .i64 0, .int .i64 1, .map (some m1), .map (some m2), .map (some m3), .slice none 0 0, .slice none 0 0, .bool false, .pointer none] 69 (0, 0)) :: blkP m3 (.map #[] 0) :: blkP m2 (.map #[] 0) :: blkP m1 (.map #[] 0) :: blkP q (.cells #[.int .i64 a, .int .i64 b, .map (some m)] 74 (0, 0)) :: blkP m (.map #[] 0) :: l) w' := by
  have HL := hid (stabC (blkP_stable q (.cells #[.int .i64 a, .int .i64 b, .map (some m)] 74 (0, 0))) (stabC (blkP_stable m (.map #[] 0)) hl))
  have HA := hs.alloc HL.out (.cells #[.int .i64 chunk, .int .i64 to, .int .i64 re] 23)
  have k0 := (Sts.boxCell HA 0 _ rfl).1
  have k1 := (Sts.boxCell HA 1 _ rfl).1
  have k2 := (Sts.boxCell HA 2 _ rfl).1
  have HS := hid (Sts.third' HA)
  have hlc := hid (stabC (blkP_stable w.heap.size (.cells #[.int .i64 chunk, .int .i64 to, .int .i64 re] 23 (0, 0))) hl)
  clear HA
  have d1 : decide (self < 0) = false := decide_eq_false (by omega)
  have d2 : decide (15 < self) = false := decide_eq_false (by omega)
  have d3 : decide (chunk < 1) = false := decide_eq_false (by omega)
  have d4 : decide (512 < chunk) = false := decide_eq_false (by omega)
  have d5 : decide (to < 1) = false := decide_eq_false (by omega)
  have d6 : decide (1048576 < to) = false := decide_eq_false (by omega)
  have d7 : decide (re < 0) = false := decide_eq_false (by omega)
  have d8 : decide (255 < re) = false := decide_eq_false (by omega)
  have hmm := @run_makeMap Tryz.prog
  clear hs h3 h4 h5 h6
  go_enter Tryz.func19, Tryz.ntmps19
  go_wp2_with (first | (go_at_call 54; refine (cFilClone hlc.out q m a b HS.out h1 h2).mono ?_; rintro e w2 ⟨q', rfl, hc⟩; have HC := hid hc; clear hc) | (refine wpList_ldS rfl (.tmp 5) 23 rfl rfl (.agg #[.int .i64 chunk, .int .i64 to, .int .i64 re]) (ldCfg (Sts.third HC.out)) ?_))
  go_ret2
  have HLC := stabC (blkP_stable q (.cells #[.int .i64 a, .int .i64 b, .map (some m)] 74 (0, 0))) (stabC (blkP_stable m (.map #[] 0)) hlc.out)
  have g1 := HC.out.alloc HLC (.map #[] 0)
  have g2 := g1.alloc (stabC (blkP_stable _ _) HLC) (.map #[] 0)
  have g3 := g2.alloc (stabC (blkP_stable _ _) (stabC (blkP_stable _ _) HLC)) (.map #[] 0)
  have g4 := g3.alloc (stabC (blkP_stable _ _) (stabC (blkP_stable _ _) (stabC (blkP_stable _ _) HLC))) (.cells #[.bool true, .int .i64 self, .pointer (some ⟨q, 0, none⟩), .int .i64 chunk, .int .i64 to, .int .i64 re, .int .i64 0, .int .i64 1, .map (some w2.heap.size), .map (some (w2.heap.size + 1)), .map (some (w2.heap.size + 1 + 1)), .slice none 0 0, .slice none 0 0, .bool false, .pointer none] 69)
  have g5 := (g4.perm (show (_ :: _ :: _ :: _ :: _ :: _ :: _ :: l).Perm (_ :: _ :: _ :: _ :: _ :: _ :: _ :: l) from List.perm_middle (l₁ := [_, _, _, _, _, _]))).tail
  have e1 : (w2.alloc (.map #[] 0)).heap.size = w2.heap.size + 1 := Array.size_push ..
  have e2 : ((w2.alloc (.map #[] 0)).alloc (.map #[] 0)).heap.size = w2.heap.size + 1 + 1 := by show (Array.push _ _).size = _; rw [Array.size_push, e1]
  have e3 : (((w2.alloc (.map #[] 0)).alloc (.map #[] 0)).alloc (.map #[] 0)).heap.size = w2.heap.size + 1 + 1 + 1 := by show (Array.push _ _).size = _; rw [Array.size_push, e2]
  rw [e1, e2, e3] at g5
  exact ⟨_, _, _, _, rfl, g5⟩
end
end Go.Proofs.YtgidckkcibplgaaGreat
namespace Go.Proofs.YtgidckkcibplgaaGreat
open Go.RowKit Go.Proofs.Num
theorem setAll_cellsS (b : Nat) : ∀ (vs : List Value) (k : Nat) (w : World), setAll b k vs w = w.setCells b k vs
  | [], _, _ => rfl
  | v :: vs, k, w => setAll_cellsS b vs (k + 1) _
theorem putAll_getS : ∀ (vs : List Value) (k : Nat) (c : Array Value) (i : Nat), (putAll k vs c)[i]? = if k ≤ i ∧ i < k + vs.length ∧ i < c.size then vs[i - k]? else c[i]?
  | [], k, c, i => by rw [if_neg (by simp; omega)]; rfl
  | v :: vs, k, c, i => by
    show (putAll (k + 1) vs (c.setIfInBounds k v))[i]? = _
    rw [putAll_getS vs (k + 1)]
    simp only [Array.size_setIfInBounds, List.length_cons]
    by_cases h1 : k + 1 ≤ i ∧ i < k + 1 + vs.length ∧ i < c.size
    · rw [if_pos h1, if_pos (by omega), show i - k = (i - (k + 1)) + 1 by omega, List.getElem?_cons_succ]
    · rw [if_neg h1, Array.getElem?_setIfInBounds]
      by_cases h2 : k = i
      · subst h2
        by_cases h3 : k < c.size
        · rw [if_pos rfl, if_pos h3, if_pos (by omega), Nat.sub_self]; rfl
        · rw [if_pos rfl, if_neg h3, if_neg (by omega), Array.getElem?_eq_none (by omega)]
      · rw [if_neg h2, if_neg (by omega)]
theorem putAll_allS (vs c : Array Value) (hc : c.size = vs.size) : putAll 0 vs.toList c = vs := by
  apply Array.ext_getElem?
  intro i
  rw [putAll_getS]
  by_cases h : i < vs.size
  · rw [if_pos (by simp; omega)]; simp
  · rw [if_neg (by simp; omega), Array.getElem?_eq_none (by omega), Array.getElem?_eq_none (by omega)]
theorem exec_aggS {W w : World} {l : List HProp} {b : Nat} {c : Array Value} {t0 : TypeId} {o : Oper} {a : Act} (hS : Sts W (blkP b (.cells c t0 (0, 0)) :: l) w) (hl : ∀ B ∈ l, Stable B) (p v : Operand) (t : TypeId) (ho : o.op = .store t p v) (vs : Array Value)
    (hp : a.eval p = .pointer (some ⟨b, 0, none⟩)) (hv : a.eval v = .agg vs) (hz : ∀ w, (Go.sizeOf t).run Tryz.prog w = .ok vs.size w) (hc : c.size = vs.size) (h1 : vs.toList.all (fun v => v.oneCell') = true) :
    ∃ w', (execOp a.eval o).run Tryz.prog w = .ok .skip w' ∧ Sts W (blkP b (.cells vs t0 (0, 0)) :: l) w' := by
  have hb : w.heap[b]? = some (.cells c t0 (0, 0)) := by obtain ⟨F, hF⟩ := hS.head; exact hF.1
  have hst := run_storeCells_cells (P := Tryz.prog) b 0 vs.toList 0 w (fun j hj => by
      have hj2 : j < c.size := by rw [hc]; simpa using hj
      have h3 := cell_blk hb (Array.getElem?_eq_getElem hj2)
      simp only [Nat.zero_add]
      rw [h3]; rfl) (fun j hj => free_blk hb) (List.all_eq_true.1 h1)
  have hf := Sts.storeAll hl vs.toList 0 _ _ hS
  rw [putAll_allS vs c hc, setAll_cellsS] at hf
  refine ⟨_, ?_, hf⟩
  unfold execOp
  simp only [ho, hp, hv]
  simp [go_sem, Instr.storeAt, storeVar, hz, Value.cells, hst]
theorem wpList_aggS {ops : Array Oper} {rest : List Oper} {o : Oper} {a : Act} {Q : Exit → Act → World → Prop} {W w : World} {l : List HProp} {b : Nat} {c : Array Value} {t0 : TypeId}
    (hS : Sts W (blkP b (.cells c t0 (0, 0)) :: l) w) (hl : ∀ B ∈ l, Stable B) (hgd : o.guard = none) (p v : Operand) (t : TypeId) (ho : o.op = .store t p v) (vs : Array Value)
    (hp : a.eval p = .pointer (some ⟨b, 0, none⟩)) (hv : a.eval v = .agg vs) (hz : ∀ w, (Go.sizeOf t).run Tryz.prog w = .ok vs.size w) (hc : c.size = vs.size) (h1 : vs.toList.all (fun v => v.oneCell') = true)
    (h : ∀ w', Sts W (blkP b (.cells vs t0 (0, 0)) :: l) w' → wpList Tryz.prog ops Q rest (a.put o.dst undef) w') : wpList Tryz.prog ops Q (o :: rest) a w := by
  refine wpList_plain hgd fun K hK => ?_
  obtain ⟨w', hr, hf⟩ := exec_aggS (o := o) (a := a) hS hl p v t ho vs hp hv hz hc  h1
  unfold Oper.wp
  rw [hr]
  exact hK _ _ (h _ hf)
def cellBS : Value → Bool
  | .int _ _ => true
  | .bool _ => true
  | .string _ => true
  | .pointer _ => true
  | .slice _ _ _ => true
  | _ => false
/-- The store of one cell. -/
theorem wpList_cellS {ops : Array Oper} {rest : List Oper} {o : Oper} {a : Act} {Q : Exit → Act → World → Prop} {W w : World} {l : List HProp} {b : Nat} {c : Array Value} {t0 : TypeId}
    (hS : Sts W (blkP b (.cells c t0 (0, 0)) :: l) w) (hl : ∀ B ∈ l, Stable B) (hgd : o.guard = none) (p v : Operand) (t : TypeId) (ho : o.op = .store t p v) (j : Nat) (x : Value)
    (hp : a.eval p = .pointer (some ⟨b, j, none⟩)) (hv : a.eval v = x) (hz : ∀ w, (Go.sizeOf t).run Tryz.prog w = .ok 1 w) (hj : j < c.size) (h1 : cellBS x = true)
    (h : ∀ w', Sts W (blkP b (.cells (c.setIfInBounds j x) t0 (0, 0)) :: l) w' → wpList Tryz.prog ops Q rest (a.put o.dst undef) w') : wpList Tryz.prog ops Q (o :: rest) a w := by
  refine wpList_plain hgd fun K hK => ?_
  have hb : w.heap[b]? = some (.cells c t0 (0, 0)) := by obtain ⟨F, hF⟩ := hS.head; exact hF.1
  have h3 := cell_blk hb (Array.getElem?_eq_getElem hj)
  have h4 : w.frozen? ⟨b, j, none⟩ = false := free_blk hb
  have hf := Sts.store hl hS (j := j) x
  have hr : (execOp a.eval o).run Tryz.prog w = .ok .skip (w.setCell ⟨b, j, none⟩ x) := by
    unfold execOp
    simp only [ho, hp, hv]
    cases x
    all_goals first
      | (simp [cellBS] at h1; done)
      | (simp [go_sem, Instr.storeAt, storeVar, hz, Value.cells, h3, h4, Result.andThen])
  unfold Oper.wp
  rw [hr]
  exact hK _ _ (h _ hf)
set_option maxRecDepth 100000 in
theorem post_cell2S {fn : Func} {R : Ending → World → Prop} {a : Act} {W w : World} {l : List HProp} {b : Nat} {cs : Array Value} {t0 ty : TypeId} {p u : Tmp} (hS : Sts W (blkP b (.cells cs t0 (0, 0)) :: l) w)
    (hfn : fn.results = #[.cell p ty, .tmp u]) (hp : a.tmps.getD p undef = .pointer (some ⟨b, 0, none⟩)) (hdf : a.defers = []) (hld : (loadVar ty ⟨b, 0, none⟩).run Tryz.prog w = .ok (.agg cs) w)
    (x : Value) (hx : a.tmps.getD u undef = x) (hR : R (.returned (.tuple #[.agg cs, x])) w) : bodyPost Tryz.prog fn R .ret a w := by
  have hb : w.heap[b]? = some (.cells cs t0 (0, 0)) := by obtain ⟨F, hF⟩ := hS.head; exact hF.1
  refine bodyPost_ret (v := .tuple #[.agg cs, x]) ?_ hdf hR
  rw [results_cell_tmp hfn, hp, hx]
  show ((asAddr (.pointer (some ⟨b, 0, none⟩))).run Tryz.prog w).andThen _ = _
  rw [show (asAddr (.pointer (some ⟨b, 0, none⟩))).run Tryz.prog w = .ok ⟨b, 0, none⟩ w by simp [asAddr]]
  show ((loadVar ty ⟨b, 0, none⟩).run Tryz.prog w).andThen _ = _
  rw [hld]
  rfl
set_option maxRecDepth 100000 in
theorem post_cell1S {fn : Func} {R : Ending → World → Prop} {a : Act} {W w : World} {l : List HProp} {b : Nat} {cs : Array Value} {t0 ty : TypeId} {p : Tmp} (hS : Sts W (blkP b (.cells cs t0 (0, 0)) :: l) w)
    (hfn : fn.results = #[.cell p ty]) (hp : a.tmps.getD p undef = .pointer (some ⟨b, 0, none⟩)) (hdf : a.defers = []) (hld : (loadVar ty ⟨b, 0, none⟩).run Tryz.prog w = .ok (.agg cs) w)
    (hR : R (.returned (.agg cs)) w) : bodyPost Tryz.prog fn R .ret a w := by
  have hb : w.heap[b]? = some (.cells cs t0 (0, 0)) := by obtain ⟨F, hF⟩ := hS.head; exact hF.1
  refine bodyPost_ret (v := .agg cs) ?_ hdf hR
  have h1 : (results fn a.tmps).run Tryz.prog w = ((asAddr (a.tmps.getD p undef)).run Tryz.prog w).andThen fun a w₁ => (loadVar ty a).run Tryz.prog w₁ := by
    simp only [results, hfn]
    simp [Sem.run_bind, Result.andThen]
  rw [h1, hp]
  show ((asAddr (.pointer (some ⟨b, 0, none⟩))).run Tryz.prog w).andThen _ = _
  rw [show (asAddr (.pointer (some ⟨b, 0, none⟩))).run Tryz.prog w = .ok ⟨b, 0, none⟩ w by simp [asAddr]]
  show (loadVar ty ⟨b, 0, none⟩).run Tryz.prog w = _
  exact hld
end Go.Proofs.YtgidckkcibplgaaGreat
